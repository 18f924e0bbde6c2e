/- Texts of this claim, put together. -/
import Derived.Test.YtbihpjgldkojoaaGreatDoorVmA
import Derived.Laws.CopyRow
import Derived.Laws.IdiomStrings
import Derived.Lib.AppendStr
import Derived.Lib.Join
import Derived.Carry
import Derived.Deep.DeepHandedRow
import Derived.WalkKit
import Derived.ProofKit
import Derived.OpenShut
import Derived.Laws.RangeAny
set_option linter.unusedVariables false
namespace Go.Vw
def b_1 (x1:Int)(x2:Int)(x3:Int):Option Bool :=
 bd (α:=Bool) (if (decide<|x2<=x1) then some (decide<|x1<=x3) else some false) (λG=>some G)
def f_z (x1:Str):Option Bool :=
 bd (G_ (σ:=Unit) (ρ:=Bool) (λk10=>(λ(_:Unit)=>bd (α:=Bool) (bd (idx x1.b (k10:Int)) λG=>if (decide<|(byteI (97:UInt8))<=(byteI G)) then bd (idx x1.b (k10:Int)) λH=>some (decide<|(byteI H)<=(byteI (122:UInt8))) else some false) (λI=>bd (α:=Bool) (bd (idx x1.b (k10:Int)) λJ=>if (decide<|(byteI (48:UInt8))<=(byteI J)) then bd (idx x1.b (k10:Int)) λL=>some (decide<|(byteI L)<=(byteI (57:UInt8))) else some false) (λO=>bd (α:=Bool) (if (!I) then if (!O) then some true else some ((k10:Int)==0) else some false) (λV=>if V then some (.ret false) else some (.next ())))))) x1.b.length 0 ()) (el (λ(_:Unit)=>bd (b_1 (x1.b.length:Int) 1 12) λW=>some W)<|λY=>some Y)
def e_9 (n:Nat)(x1:Int):Option Str :=
 if (x1==0) then some (⟨[48]⟩:Str) else bd (a_a (σ:=Str×Int) (ρ:=Str) (un2 λH G=>if (G != 0) then bd (α:=Int) (if (decide<|(a_8 G 10)<0) then some (f_o<|a_8 G 10) else some (a_8 G 10)) (λI=>bd (cat (⟨[mkB (j_ 48 I)]⟩:Str) H) λJ=>some<|.next (J,c_4 G 10)) else some (.brk (H,G))) n ((⟨[]⟩:Str),x1)) (el (un2 λH G=>if (decide<|x1<0) then bd (cat (⟨[45]⟩:Str) H) λL=>some L else some H)<|λO=>some O)
def c_g (x1:d_)(x2:Bool)(x3:Bool)(x4:Bool)(x5:Bool)(x6:Int):Option Bool :=
 bd (α:=Bool) (bd (α:=Bool) (if x2 then some true else some (x1.size==0)) λG=>bd (α:=Bool) (if G then if x3 then some true else some ((x1.bytes.length:Int)==0) else some false) λH=>bd (α:=Bool) (if H then if x4 then some true else some ((x1.names.length:Int)==0) else some false) λI=>bd (α:=Bool) (if I then if x5 then some true else some ((x1.tags.length:Int)==0) else some false) λJ=>bd (α:=Bool) (if J then if (decide<|x6<0) then some true else some ((x1.kids.length:Int)==x6) else some false) λL=>if L then if (!x1.little) then some true else some (x1.kind==1) else some false) (λO=>some O)
def d_A (x1:Int):Option Int :=
 bd (nn<|a_f 8 x1) λG=>some<|b_H .i64 1<|a_f 8 x1
def e_H (x1:g_)(x2:Int):Option Int :=
 bd (α:=Bool) (bd (b_1 x2 0<|J_ (x1.rules.length:Int) 1) λG=>if (!G) then some true else bd (idx x1.rules x2) λH=>if (H.kind != 1) then some true else bd (idx x1.rules x2) λI=>bd (b_1 I.size 1 4) λJ=>some (!J)) (λL=>if L then some (-1) else bd (idx x1.rules x2) λO=>bd (d_A O.size) λV=>some<|J_ V 1)
def g_Q (x1:List Str)(x2:Str):Option Bool :=
 bd (G_ (σ:=Unit) (ρ:=Bool) (λk10=>(λ(_:Unit)=>bd (idx x1 (k10:Int)) λG=>if (G.b==x2.b) then some (.ret true) else some (.next ()))) x1.length 0 ()) (el (λ(_:Unit)=>some false)<|λH=>some H)
def g_R (x1:List Str):Option Bool :=
 bd (G_ (σ:=Unit) (ρ:=Bool) (λk10=>(λ(_:Unit)=>bd (α:=Bool) (bd (idx x1 (k10:Int)) λG=>bd (f_z G) λH=>if (!H) then some true else bd (slc x1 0 (k10:Int)) λI=>bd (idx x1 (k10:Int)) λJ=>bd (g_Q I J) λL=>some L) (λO=>if O then some (.ret false) else some (.next ())))) x1.length 0 ()) (el (λ(_:Unit)=>bd (b_1 (x1.length:Int) 1 8) λV=>some V)<|λW=>some W)
def g_S (x1:g_)(x2:d_):Option Bool :=
 bd (α:=Bool) (if ((x2.kids.length:Int) != (j_ (x2.tags.length:Int) 1)) then some true else bd (b_1 (x2.tags.length:Int) 1 8) λG=>some (!G)) (λH=>if H then some false else bd (G_ (σ:=Unit) (ρ:=Bool) (λk10=>(λ(_:Unit)=>bd (α:=Bool) (bd (idx x2.tags (k10:Int)) λI=>bd (idx x2.kids 0) λJ=>bd (e_H x1 J) λL=>bd (b_1 I 0 L) λO=>if (!O) then some true else if (decide<|0<(k10:Int)) then bd (idx x2.tags<|J_ (k10:Int) 1) λV=>bd (idx x2.tags (k10:Int)) λW=>some (decide<|W<=V) else some false) (λY=>if Y then some (.ret false) else some (.next ())))) x2.tags.length 0 ()) (el (λ(_:Unit)=>some true)<|λa0=>some a0))
def g_T (x1:g_)(x2:d_):Option Bool :=
 if (x2.kind==1) then bd (α:=Bool) (bd (c_g x2 true false false false 0) λG=>if G then bd (b_1 x2.size 1 4) λH=>if H then if (!x2.little) then some true else some (decide<|1<x2.size) else some false else some false) (λI=>some I) else if (x2.kind==2) then bd (α:=Bool) (bd (c_g x2 false true false false 0) λJ=>if J then bd (b_1 (x2.bytes.length:Int) 1 16) λL=>some L else some false) (λO=>some O) else if (x2.kind==3) then bd (α:=Bool) (bd (c_g x2 true false false false 0) λV=>if V then bd (b_1 x2.size 1 64) λW=>some W else some false) (λY=>some Y) else if (x2.kind==4) then bd (α:=Bool) (bd (c_g x2 false false false false 1) λa0=>if a0 then bd (idx x2.kids 0) λa1=>bd (e_H x1 a1) λa2=>some (decide<|0<a2) else some false) (λa3=>some a3) else if (x2.kind==5) then bd (α:=Bool) (bd (c_g x2 false false false false 2) λa4=>if a4 then bd (idx x2.kids 0) λa5=>bd (e_H x1 a5) λa6=>some (decide<|0<a6) else some false) (λa7=>some a7) else if (x2.kind==6) then bd (α:=Bool) (bd (c_g x2 false false true false (x2.names.length:Int)) λa8=>if a8 then bd (g_R x2.names) λa9=>some a9 else some false) (λaa=>some aa) else if (x2.kind==7) then bd (α:=Bool) (bd (c_g x2 false false false true (-1)) λab=>if ab then bd (g_S x1 x2) λad=>some ad else some false) (λae=>some ae) else bd (α:=Bool) (if (x2.kind==8) then some (x2.kind==8) else some (x2.kind==9)) (λaf=>if af then bd (c_g x2 false false false false 1) λah=>some ah else if (x2.kind==10) then bd (α:=Bool) (bd (c_g x2 false true false false 0) λai=>if ai then if ((x2.bytes.length:Int)==1) then bd (idx x2.bytes 0) λaj=>some ((byteI aj) != (byteI (92:UInt8))) else some false else some false) (λak=>some ak) else some false)
def g_U (x1:g_)(x2:Int):Option Bool :=
 bd (b_1 x2 0<|J_ (x1.rules.length:Int) 1) λH=>if (!H) then some false else bd (idx x1.rules x2) λG=>bd (G_ (σ:=Unit) (ρ:=Bool) (λI=>(λ(_:Unit)=>bd (idx x1.rules (I:Int)) λJ=>if (J.name.b==G.name.b) then some (.ret false) else some (.next ()))) x2.toNat 0 ()) (el (λ(_:Unit)=>bd (G_ (σ:=Unit) (ρ:=Bool) (λL=>(λ(_:Unit)=>bd (idx G.kids (L:Int)) λO=>bd (b_1 O 0<|J_ x2 1) λV=>if (!V) then some (.ret false) else some (.next ()))) G.kids.length 0 ()) (el (λ(_:Unit)=>bd (α:=Bool) (bd (f_z G.name) λW=>if W then bd (g_T x1 G) λY=>some Y else some false)<|λa0=>some a0)<|λa1=>some a1))<|λa2=>some a2)
def g_V (x1:g_):Option Bool :=
 bd (G_ (σ:=Unit) (ρ:=Bool) (λk10=>(λ(_:Unit)=>bd (g_U x1 (k10:Int)) λG=>if (!G) then some (.ret false) else some (.next ()))) x1.rules.length 0 ()) (el (λ(_:Unit)=>bd (b_1 (x1.rules.length:Int) 1 24) λH=>some H)<|λI=>some I)
def g_W (x1:g_):Option Int :=
 some (J_ (x1.rules.length:Int) 1)
def g_X (x1:Bt)(x2:Bool):Option Int :=
 if (decide<|4<(x1.length:Int)) then some 0 else bd (G_ (σ:=Int) (ρ:=Int) (λH=>(λG=>bd (α:=Int) (if x2 then some (J_ (J_ (x1.length:Int) 1) (H:Int)) else some (H:Int))<|λI=>bd (idx x1 I) λJ=>some<|.next<|j_ (a_f G 256)<|byteI J)) x1.length 0 0) (el (λG=>some G)<|λL=>some L)
def e_I (x1:g_)(x2:Int)(x3:Bt)(x4:Int):Option (Int×Int×Bool) :=
 bd (idx x1.rules x2) λG=>if (decide<|(J_ (x3.length:Int) x4)<G.size) then some (0,x4,false) else bd (slc x3 x4<|j_ x4 G.size) λH=>bd (g_X H G.little) λI=>some (I,j_ x4 G.size,true)
def d_7 (x1:d_)(x2:Int)(x3:Int):Option Int :=
 if (x1.kind==5) then bd (idx x1.kids 1) λG=>some G else bd (α:=Sum Unit Int) (if (x1.kind==6) then if (decide<|x3<(x1.kids.length:Int)) then bd (idx x1.kids x3) λH=>some (.inr H) else some (.inl ()) else bd (α:=Sum Unit<|Sum Unit Int) (if (x1.kind==7) then bd (G_ (σ:=Unit) (ρ:=Int) (λk10=>(λ(_:Unit)=>bd (idx x1.tags (k10:Int)) λI=>if (I==x2) then bd (idx x1.kids ((k10+1:Nat):Int)) λJ=>some (.ret J) else some (.next ()))) x1.tags.length 0 ()) (el (λ(_:Unit)=>some<|.inl ())<|λL=>some<|.inr<|.inr L) else bd (α:=Bool) (if (x1.kind==8) then some (x1.kind==8) else some (x1.kind==9)) (λO=>if O then bd (idx x1.kids 0) λV=>some (.inr<|.inr V) else some (.inl ()))) (el (λ(_:Unit)=>some<|.inl ()) some)) (el (λ(_:Unit)=>some (-1)) some)
def g_Y (x1:d_)(x2:Bt)(x3:Int):Option (Val×Int×Int) :=
 bd (G_ (σ:=Unit) (ρ:=Val×Int×Int) (λk10=>(λ(_:Unit)=>if (decide<|(x2.length:Int)<=(j_ x3 (k10:Int))) then some (.ret ((⟨0,([]:Bt),([]:List Val)⟩:Val),x3,1)) else bd (idx x2<|j_ x3 (k10:Int)) λG=>bd (idx x1.bytes (k10:Int)) λH=>if ((byteI G) != (byteI H)) then some (.ret ((⟨0,([]:Bt),([]:List Val)⟩:Val),j_ x3 (k10:Int),2)) else some (.next ()))) x1.bytes.length 0 ()) (el (λ(_:Unit)=>some ((⟨0,([]:Bt),([]:List Val)⟩:Val),j_ x3 (x1.bytes.length:Int),0))<|λI=>some I)
def f_A (x1:Bt)(x2:Int)(x3:Int):Option (Val×Int×Int) :=
 if (decide<|(J_ (x1.length:Int) x2)<x3) then some ((⟨0,([]:Bt),([]:List Val)⟩:Val),x2,1) else bd (slc x1 x2<|j_ x2 x3) λG=>bd (app ([]:Bt) G) λH=>some ((⟨0,H,([]:List Val)⟩:Val),j_ x2 x3,0)
def g_Z (n:Nat)(x1:Bt)(x2:Int)(x3:UInt8):Option (Bt×Int×Bool) :=
 bd (a_a (σ:=Bt×Int) (ρ:=Bt×Int×Bool) (un2 λH G=>bd (α:=Bool) (bd (b_1 x2 0 (x1.length:Int)) λJ=>if J then some (decide<|G<(x1.length:Int)) else some false) (λL=>if L then bd (idx x1 G) λO=>if ((byteI O)==(byteI x3)) then some (.ret (H,j_ G 1,true)) else bd (idx x1 G) λV=>bd (α:=Sum Int<|Out (Bt×Int)<|Bt×Int×Bool) (if ((byteI V)==(byteI (92:UInt8))) then if ((j_ G 1)==(x1.length:Int)) then some (.inr<|.brk (H,j_ G 1)) else some (.inl<|j_ G 1) else some (.inl G)) (el (λI=>bd (idx x1 I) λW=>bd (psh H W) λY=>some<|.next (Y,j_ I 1)) some) else some (.brk (H,G)))) n (([]:Bt),x2)) (el (un2 λH G=>some (([]:Bt),x2,false))<|λa0=>some a0)
def f_B (x1:Bt):Option Int :=
 bd (G_ (σ:=Int) (ρ:=Int) (λH=>(λG=>bd (idx x1 (H:Int)) λI=>some<|.next<|a_8 (j_ G<|byteI I) 256)) x1.length 0 0) (el (λG=>some G)<|λJ=>some J)
structure f_C where
 spec_l11Read:g_->Int->Bt->Int->Option (Val×Int×Int)
 spec_l11Items:g_->d_->Int->Int->Bt->Int->Option (Val×Int×Int)
 spec_l11Choice:g_->d_->Bt->Int->Option (Val×Int×Int)
 spec_l11Option:g_->d_->Bt->Int->Option (Val×Int×Int)
 spec_l11Checked:g_->d_->Bt->Int->Option (Val×Int×Int)
def h_0 (n:Nat)(rec:f_C)(x1:g_)(x2:Int)(x3:Bt)(x4:Int):Option (Val×Int×Int) :=
 bd (idx x1.rules x2) λG=>if (G.kind==1) then bd3 (e_I x1 x2 x3 x4) λJ L O=>if (!O) then some ((⟨0,([]:Bt),([]:List Val)⟩:Val),x4,1) else some ((⟨J,([]:Bt),([]:List Val)⟩:Val),L,0) else if (G.kind==2) then bd3 (g_Y G x3 x4) λV W Y=>some (V,W,Y) else if (G.kind==3) then bd3 (f_A x3 x4 G.size) λa0 a1 a2=>some (a0,a1,a2) else if (G.kind==10) then bd (idx G.bytes 0) λa3=>bd3 (g_Z n x3 x4 a3) λa4 a5 a6=>if (!a6) then some ((⟨0,([]:Bt),([]:List Val)⟩:Val),x4,1) else some ((⟨0,a4,([]:List Val)⟩:Val),a5,0) else if (G.kind==6) then bd3 (rec.spec_l11Items x1 G 0 (G.kids.length:Int) x3 x4) λa7 a8 a9=>some (a7,a8,a9) else if (G.kind==7) then bd3 (rec.spec_l11Choice x1 G x3 x4) λaa ab ad=>some (aa,ab,ad) else if (G.kind==8) then bd3 (rec.spec_l11Option x1 G x3 x4) λae af ah=>some (ae,af,ah) else if (G.kind==9) then bd3 (rec.spec_l11Checked x1 G x3 x4) λai aj ak=>some (ai,aj,ak) else bd (idx G.kids 0) λal=>bd3 (e_I x1 al x3 x4) λH I am=>if (!am) then some ((⟨0,([]:Bt),([]:List Val)⟩:Val),x4,1) else if (G.kind==4) then bd3 (f_A x3 I H) λan ao ap=>some (an,ao,ap) else if (decide<|40<H) then some ((⟨0,([]:Bt),([]:List Val)⟩:Val),x4,6) else bd3 (rec.spec_l11Items x1 G 0 H x3 I) λaq ar au=>some (aq,ar,au)
def h_1 (n:Nat)(rec:f_C)(x1:g_)(x2:d_)(x3:Int)(x4:Int)(x5:Bt)(x6:Int):Option (Val×Int×Int) :=
 bd (G_ (σ:=Int×(List Val)) (ρ:=Val×Int×Int) (λO=>un2 λG H=>bd (α:=Int×Bt×(List Val)×Int×Int) (bd (d_7 x2 x3 (O:Int)) λV=>bd3 (rec.spec_l11Read x1 V x5 G) λI W Y=>some (I.number,I.bytes,I.items,W,Y)) (un5 λa0 a1 a2 J L=>if (L != 0) then some (.ret ((⟨0,([]:Bt),([]:List Val)⟩:Val),J,L)) else bd (psh H (⟨a0,a1,a2⟩:Val)) λa3=>some<|.next (J,a3))) x4.toNat 0 (x6,([]:List Val))) (el (un2 λG H=>some ((⟨0,([]:Bt),H⟩:Val),G,0))<|λa4=>some a4)
def h_2 (n:Nat)(rec:f_C)(x1:g_)(x2:d_)(x3:Bt)(x4:Int):Option (Val×Int×Int) :=
 bd (idx x2.kids 0) λJ=>bd3 (e_I x1 J x3 x4) λG L O=>if (!O) then some ((⟨0,([]:Bt),([]:List Val)⟩:Val),x4,1) else bd (d_7 x2 G 0) λV=>if (decide<|V<0) then some ((⟨0,([]:Bt),([]:List Val)⟩:Val),x4,3) else bd3 (rec.spec_l11Items x1 x2 G 1 x3 L) λH W I=>bd (α:=Int) (if (I==0) then some G else some H.number)<|λY=>some ((⟨Y,H.bytes,H.items⟩:Val),W,I)
def h_3 (n:Nat)(rec:f_C)(x1:g_)(x2:d_)(x3:Bt)(x4:Int):Option (Val×Int×Int) :=
 if (decide<|(x3.length:Int)<=x4) then some ((⟨0,([]:Bt),([]:List Val)⟩:Val),x4,1) else bd (idx x3 x4) λG=>if (decide<|(byteI (1:UInt8))<(byteI G)) then some ((⟨0,([]:Bt),([]:List Val)⟩:Val),x4,4) else bd (idx x3 x4) λH=>bd3 (rec.spec_l11Items x1 x2 0 (byteI H) x3<|j_ x4 1) λI J L=>some (I,J,L)
def h_4 (n:Nat)(rec:f_C)(x1:g_)(x2:d_)(x3:Bt)(x4:Int):Option (Val×Int×Int) :=
 bd3 (rec.spec_l11Items x1 x2 0 1 x3 x4) λH G I=>if (I != 0) then some (H,G,I) else if (decide<|(x3.length:Int)<=G) then some ((⟨0,([]:Bt),([]:List Val)⟩:Val),G,1) else bd (idx x3 G) λJ=>bd (slc x3 x4 G) λL=>bd (f_B L) λO=>if ((byteI J) != O) then some ((⟨0,([]:Bt),([]:List Val)⟩:Val),G,5) else some (H,j_ G 1,0)
def a_x:Nat->f_C
 | 0=>⟨λ_ _ _ _=>none,λ_ _ _ _ _ _=>none,λ_ _ _ _=>none,λ_ _ _ _=>none,λ_ _ _ _=>none⟩
 | n+1=>⟨h_0 n<|a_x n,h_1 n<|a_x n,h_2 n<|a_x n,h_3 n<|a_x n,h_4 n<|a_x n⟩
def j_2 (n:Nat):=(a_x n).spec_l11Read
def e_J (n:Nat):=(a_x n).spec_l11Items
def c_h (x1:Bt)(x2:Int)(x3:Int)(x4:Bt):Option (Bt×Bool) :=
 bd (α:=Bool) (if (decide<|x2<0) then some true else if (decide<|x3<0) then some true else if (decide<|(x1.length:Int)<x3) then some true else some (decide<|(J_ (x1.length:Int) x3)<x2)) (λG=>if G then bd (app ([]:Bt) x1) λH=>some (H,false) else bd (slc x1 0 x2) λI=>bd (slc x1 (j_ x2 x3) (x1.length:Int)) λJ=>bd (app ([]:Bt) I) λL=>bd (app L x4) λO=>bd (app O J) λV=>some (V,true))
def h_5 (x1:g_)(x2:Int):Option Bool :=
 bd (α:=Bool) (bd (b_1 x2 0<|J_ (x1.rules.length:Int) 1) λG=>if G then bd (g_V x1) λH=>some H else some false) (λI=>some I)
def h_6 (n:Nat)(x1:g_)(x2:Int)(x3:Bt)(x4:Int):Option (Val×Int×Int) :=
 bd (α:=Bool) (bd (h_5 x1 x2) λG=>if (!G) then some true else bd (b_1 x4 0 (x3.length:Int)) λH=>if (!H) then some true else some (decide<|400<(x3.length:Int))) (λI=>if I then some ((⟨0,([]:Bt),([]:List Val)⟩:Val),0,8) else bd3 (j_2 n x1 x2 x3 x4) λJ L O=>some (J,L,O))
def f_D (n:Nat)(x1:g_)(x2:Bt):Option (Val×Int×Int) :=
 bd (α:=Int×Bt×(List Val)×Int×Int) (bd (g_W x1) λJ=>bd3 (h_6 n x1 J x2 0) λG L O=>some (G.number,G.bytes,G.items,L,O)) (un5 λV W Y H I=>bd (α:=Bool) (if (I==0) then some (decide<|H<(x2.length:Int)) else some false) (λa0=>if a0 then some ((⟨0,([]:Bt),([]:List Val)⟩:Val),H,7) else some ((⟨V,W,Y⟩:Val),H,I)))
def c_L (n:Nat)(x1:g_)(x2:Bt):Option Bool :=
 bd3 (f_D n x1 x2) λH I G=>some<|G==0
def f_E (x1:Str)(x2:UInt8):Option (List Str) :=
 bd (G_ (σ:=(List Str)×Int) (ρ:=List Str) (λI=>un2 λG H=>bd (idx x1.b (I:Int)) λJ=>bd (α:=(List Str)×Int) (if ((byteI J)==(byteI x2)) then bd (c_x x1 H (I:Int)) λL=>bd (psh G L) λO=>some (O,((I+1:Nat):Int)) else some (G,H))<|un2 λV W=>some<|.next (V,W)) x1.b.length 0 (([]:List Str),0)) (el (un2 λG H=>bd (c_x x1 H (x1.b.length:Int)) λY=>bd (psh G Y) λa0=>some a0)<|λa1=>some a1)
def e_a (n:Nat)(x1:Str):Option Bool :=
 bd (α:=Bool) (if (decide<|(x1.b.length:Int)<1) then some true else some (decide<|12<(x1.b.length:Int))) (λH=>if H then some false else bd (a_a (σ:=Nat) (ρ:=Bool) (λG=>if (decide<|G<x1.b.length) then bd (α:=Bool) (if (decide<|97<=((dec x1 G).1)) then some (decide<|((dec x1 G).1)<=122) else some false) (λI=>bd (α:=Bool) (if (decide<|48<=((dec x1 G).1)) then some (decide<|((dec x1 G).1)<=57) else some false) (λJ=>bd (α:=Bool) (if (!I) then if (!J) then some true else some ((G:Int)==0) else some false) (λL=>if L then some (.ret false) else some (.next<|G+(dec x1 G).2)))) else some (.brk G)) n 0) (el (λG=>some true)<|λO=>some O))
def f_F (x1:Str):Option (Int×Bool) :=
 bd (α:=Bool) (if (x1.b==(⟨[]⟩:Str).b) then some true else if (decide<|13<(x1.b.length:Int)) then some true else bd (idx x1.b 0) λI=>if ((byteI I)==(byteI (48:UInt8))) then some (decide<|1<(x1.b.length:Int)) else some false) (λJ=>if J then some (0,false) else bd (G_ (σ:=Int) (ρ:=Int×Bool) (λH=>(λG=>bd (α:=Bool) (bd (idx x1.b (H:Int)) λL=>if (decide<|(byteI L)<(byteI (48:UInt8))) then some true else bd (idx x1.b (H:Int)) λO=>some<|decide<|(byteI (57:UInt8))<(byteI O)) (λV=>if V then some (.ret (0,false)) else bd (idx x1.b (H:Int)) λW=>some<|.next<|j_ (a_f 10 G)<|byteI<|mkB<|byteI W - byteI (48:UInt8)))) x1.b.length 0 0) (el (λG=>if (decide<|1000000000000<G) then some (0,false) else some (G,true))<|λY=>some Y))
def e_K (n:Nat)(x1:Str):Option Bool :=
 bd (α:=Bool) (bd (e_a n x1) λG=>if G then some true else if (x1.b==(⟨[42]⟩:Str).b) then some true else if (x1.b==(⟨[63]⟩:Str).b) then some true else some (x1.b==(⟨[43]⟩:Str).b)) (λH=>if H then some true else bd2 (f_F x1) λJ I=>some I)
def j_3 (n:Nat)(x1:Str):Option ((List Str)×Bool) :=
 if (x1.b==(⟨[]⟩:Str).b) then some ([],true) else bd (idx x1.b 0) λc=>if (byteI c != byteI (47:UInt8)) then some ([],false) else bd (f_E x1 (47:UInt8)) λl=>bd (slc l 1 (l.length:Int)) λparts=>bd (f_y (e_K n) parts) λoks=>if parts.length<LIM then some (if oks.all id then (parts,true) else ([],false)) else none
def h_7 (n:Nat)(x1:Str):Option ((List Str)×Bool) :=
 bd2 (j_3 n x1) λG H=>some (G,H)
def c_i (x1:Int)(x2:Int)(x3:Int):Option Bool :=
 bd (α:=Bool) (if (decide<|x2<=x1) then some (decide<|x1<=x3) else some false) (λG=>some G)
def e_b (x1:g_)(x2:Int):Option Bool :=
 bd (α:=Bool) (if (decide<|0<=x2) then some (decide<|x2<(x1.rules.length:Int)) else some false) (λG=>some G)
def c_j (x1:d_)(x2:Bool)(x3:Bool)(x4:Bool)(x5:Bool)(x6:Int):Option Bool :=
 bd (α:=Bool) (bd (α:=Bool) (if x2 then some true else some (x1.size==0)) λG=>bd (α:=Bool) (if G then if x3 then some true else some ((x1.bytes.length:Int)==0) else some false) λH=>bd (α:=Bool) (if H then if x4 then some true else some ((x1.names.length:Int)==0) else some false) λI=>bd (α:=Bool) (if I then if x5 then some true else some ((x1.tags.length:Int)==0) else some false) λJ=>if J then if (decide<|x6<0) then some true else some ((x1.kids.length:Int)==x6) else some false) (λL=>some L)
def e_L (x1:g_)(x2:Int):Option Int :=
 bd (α:=Bool) (bd (e_b x1 x2) λH=>if (!H) then some true else bd (idx x1.rules x2) λI=>if (I.kind != 1) then some true else bd (idx x1.rules x2) λJ=>bd (c_i J.size 1 4) λL=>some (!L)) (λO=>if O then some (-1) else bd (idx x1.rules x2) λG=>bd (nn<|a_f 8 G.size) λV=>some<|J_ (b_H .i64 1<|a_f 8 G.size) 1)
def e_M (x1:List Str)(x2:Str):Option Bool :=
 bd (G_ (σ:=Unit) (ρ:=Bool) (λk10=>(λ(_:Unit)=>bd (idx x1 (k10:Int)) λG=>if (G.b==x2.b) then some (.ret true) else some (.next ()))) x1.length 0 ()) (el (λ(_:Unit)=>some false)<|λH=>some H)
def h_8 (n:Nat)(x1:d_):Option Bool :=
 bd (α:=Bool) (bd (c_j x1 false false true false (-1)) λH=>if (!H) then some true else if ((x1.kids.length:Int) != (x1.names.length:Int)) then some true else bd (c_i (x1.kids.length:Int) 1 8) λI=>some (!I)) (λJ=>if J then some false else bd (G_ (σ:=Unit) (ρ:=Bool) (λk10=>(λ(_:Unit)=>bd (idx x1.names (k10:Int)) λG=>bd (α:=Bool) (bd (e_a n G) λL=>if (!L) then some true else bd (slc x1.names 0 (k10:Int)) λO=>bd (e_M O G) λV=>some V) (λW=>if W then some (.ret false) else some (.next ())))) x1.names.length 0 ()) (el (λ(_:Unit)=>some true)<|λY=>some Y))
def h_9 (x1:g_)(x2:d_):Option Bool :=
 bd (α:=Bool) (bd (c_j x2 false false false true<|j_ (x2.tags.length:Int) 1) λI=>if (!I) then some true else bd (c_i (x2.tags.length:Int) 1 8) λJ=>some (!J)) (λL=>if L then some false else bd (idx x2.kids 0) λO=>bd (e_L x1 O) λG=>bd (G_ (σ:=Unit) (ρ:=Bool) (λk10=>(λ(_:Unit)=>bd (idx x2.tags (k10:Int)) λH=>bd (α:=Bool) (bd (c_i H 0 G) λV=>if (!V) then some true else if (decide<|0<(k10:Int)) then bd (idx x2.tags<|J_ (k10:Int) 1) λW=>some (decide<|H<=W) else some false) (λY=>if Y then some (.ret false) else some (.next ())))) x2.tags.length 0 ())<|el (λ(_:Unit)=>some<|decide<|0<G)<|λa0=>some a0)
def h_a (n:Nat)(x1:g_)(x2:d_):Option Bool :=
 if (x2.kind==1) then bd (α:=Bool) (bd (c_j x2 true false false false 0) λG=>if G then bd (c_i x2.size 1 4) λH=>if H then if (!x2.little) then some true else some (decide<|1<x2.size) else some false else some false) (λI=>some I) else if (x2.kind==2) then bd (α:=Bool) (bd (c_j x2 false true false false 0) λJ=>if J then bd (c_i (x2.bytes.length:Int) 1 16) λL=>some L else some false) (λO=>some O) else if (x2.kind==3) then bd (α:=Bool) (bd (c_j x2 true false false false 0) λV=>if V then bd (c_i x2.size 1 64) λW=>some W else some false) (λY=>some Y) else if (x2.kind==4) then bd (α:=Bool) (bd (c_j x2 false false false false 1) λa0=>if a0 then bd (idx x2.kids 0) λa1=>bd (e_L x1 a1) λa2=>some (decide<|0<a2) else some false) (λa3=>some a3) else if (x2.kind==5) then bd (α:=Bool) (bd (c_j x2 false false false false 2) λa4=>if a4 then bd (idx x2.kids 0) λa5=>bd (e_L x1 a5) λa6=>some (decide<|0<a6) else some false) (λa7=>some a7) else if (x2.kind==6) then bd (h_8 n x2) λa8=>some a8 else if (x2.kind==7) then bd (h_9 x1 x2) λa9=>some a9 else bd (α:=Bool) (if (x2.kind==8) then some (x2.kind==8) else some (x2.kind==9)) (λaa=>if aa then bd (c_j x2 false false false false 1) λab=>some ab else if (x2.kind==10) then bd (α:=Bool) (bd (c_j x2 false true false false 0) λad=>if ad then if ((x2.bytes.length:Int)==1) then bd (idx x2.bytes 0) λae=>some ((byteI ae) != (byteI (92:UInt8))) else some false else some false) (λaf=>some af) else some false)
def h_b (n:Nat)(x1:g_)(x2:Int):Option Bool :=
 bd (e_b x1 x2) λJ=>if (!J) then some false else bd (idx x1.rules x2) λG=>bd (α:=Bool) (bd (e_a n G.name) λL=>if (!L) then some true else if G.little then some (G.kind != 1) else some false) (λO=>if O then some false else bd (slc x1.rules 0 x2) λH=>bd (G_ (σ:=Unit) (ρ:=Bool) (λV=>(λ(_:Unit)=>bd (idx H (V:Int)) λW=>if (W.name.b==G.name.b) then some (.ret false) else some (.next ()))) H.length 0 ()) (el (λ(_:Unit)=>bd (G_ (σ:=Unit) (ρ:=Bool) (λY=>(λ(_:Unit)=>bd (idx G.kids (Y:Int)) λI=>bd (α:=Bool) (if (decide<|I<0) then some true else some (decide<|x2<=I)) (λa0=>if a0 then some (.ret false) else some (.next ())))) G.kids.length 0 ())<|el (λ(_:Unit)=>bd (h_a n x1 G) λa1=>some a1)<|λa2=>some a2)<|λa3=>some a3))
def h_c (n:Nat)(x1:g_):Option Bool :=
 bd (c_i (x1.rules.length:Int) 1 24) λG=>if (!G) then some false else bd (G_ (σ:=Unit) (ρ:=Bool) (λH=>(λ(_:Unit)=>bd (h_b n x1 (H:Int)) λI=>if (!I) then some (.ret false) else some (.next ()))) x1.rules.length 0 ()) (el (λ(_:Unit)=>some true)<|λJ=>some J)
def d_B (x1:g_):Option Int :=
 some (J_ (x1.rules.length:Int) 1)
def e_N (n:Nat)(x1:g_)(x2:Int):Option Bool :=
 bd (α:=Bool) (bd (h_c n x1) λG=>if G then bd (e_b x1 x2) λH=>some H else some false) (λI=>some I)
def d_C (x1:a_6)(x2:Int)(x3:Int):Option P_ :=
 if (decide<|(J_ (x1.b.length:Int) x2)<x3) then some (⟨x2,1⟩:P_) else some (⟨j_ x2 x3,0⟩:P_)
def d_D (x1:Bt)(x2:Bool):Option Int :=
 if (decide<|4<(x1.length:Int)) then some 0 else bd (G_ (σ:=Int) (ρ:=Int) (λH=>(λG=>bd (α:=Int) (if x2 then bd (idx x1<|J_ (J_ (x1.length:Int) 1) (H:Int)) λI=>some (a_H .i64 (· ||| ·) (b_H .i64 G 8)<|byteI I) else bd (idx x1 (H:Int)) λJ=>some<|a_H .i64 (· ||| ·) (b_H .i64 G 8)<|byteI J)<|λL=>some<|.next L)) x1.length 0 0) (el (λG=>some G)<|λO=>some O)
def e_c (x1:a_6)(x2:Int)(x3:Int):Option (Int×P_×Int) :=
 bd (idx x1.d.rules x2) λH=>bd (d_C (⟨(⟨x1.d.rules⟩:g_),x1.b,j_ x1.applied 1⟩:a_6) x3 H.size) λG=>if (G.code != 0) then some (0,G,j_ x1.applied 1) else bd (slc x1.b x3 G.at_) λI=>bd (d_D I H.little) λJ=>some (J,G,j_ x1.applied 1)
def h_d (x1:a_6)(x2:d_)(x3:Int):Option P_ :=
 bd (G_ (σ:=Unit) (ρ:=P_) (λk10=>(λ(_:Unit)=>bd (idx x2.bytes (k10:Int)) λG=>if ((j_ x3 (k10:Int))==(x1.b.length:Int)) then some (.ret (⟨x3,1⟩:P_)) else bd (idx x1.b<|j_ x3 (k10:Int)) λH=>if ((byteI H) != (byteI G)) then some (.ret (⟨j_ x3 (k10:Int),2⟩:P_)) else some (.next ()))) x2.bytes.length 0 ()) (el (λ(_:Unit)=>some (⟨j_ x3 (x2.bytes.length:Int),0⟩:P_))<|λI=>some I)
def e_d (x1:Bt):Option Int :=
 bd (G_ (σ:=Int) (ρ:=Int) (λH=>(λG=>bd (idx x1 (H:Int)) λI=>some<|.next<|j_ G<|byteI I)) x1.length 0 0) (el (λG=>some<|a_8 G 256)<|λJ=>some J)
def f_G (n:Nat)(x1:Bt)(x2:Int)(x3:UInt8):Option (Bt×Int×Bool) :=
 bd (α:=Bool) (if (decide<|x2<0) then some true else some (decide<|(x1.length:Int)<x2)) (λJ=>if J then some (([]:Bt),x2,false) else bd (a_a (σ:=Bt×Int) (ρ:=Bt×Int×Bool) (un2 λH G=>if (decide<|G<(x1.length:Int)) then bd (idx x1 G) λL=>if ((byteI L)==(byteI x3)) then some (.ret (H,j_ G 1,true)) else bd (idx x1 G) λO=>bd (α:=Sum Int<|Out (Bt×Int)<|Bt×Int×Bool) (if ((byteI O)==(byteI (92:UInt8))) then if ((j_ G 1)==(x1.length:Int)) then some (.inr<|.brk (H,j_ G 1)) else some (.inl<|j_ G 1) else some (.inl G)) (el (λI=>bd (idx x1 I) λV=>bd (psh H V) λW=>some<|.next (W,j_ I 1)) some) else some (.brk (H,G))) n (([]:Bt),x2)) (el (un2 λH G=>some (([]:Bt),x2,false))<|λY=>some Y))
structure f_H where
 impl_checker_value:a_6->Int->Int->Option (P_×Int)
 impl_checker_array:a_6->d_->Int->Option (P_×Int)
 impl_checker_choice:a_6->d_->Int->Option (P_×Int)
 impl_checker_option:a_6->d_->Int->Option (P_×Int)
 impl_checker_checked:a_6->d_->Int->Option (P_×Int)
def h_e (n:Nat)(rec:f_H)(x1:a_6)(x2:Int)(x3:Int):Option (P_×Int) :=
 bd (idx x1.d.rules x2) λG=>if (G.kind==1) then bd3 (e_c x1 x2 x3) λam Y a0=>some (Y,a0) else if (G.kind==2) then bd (h_d (⟨(⟨x1.d.rules⟩:g_),x1.b,j_ x1.applied 1⟩:a_6) G x3) λa1=>some (a1,j_ x1.applied 1) else if (G.kind==3) then bd (d_C (⟨(⟨x1.d.rules⟩:g_),x1.b,j_ x1.applied 1⟩:a_6) x3 G.size) λa2=>some (a2,j_ x1.applied 1) else if (G.kind==4) then bd (idx G.kids 0) λa3=>bd3 (e_c (⟨(⟨x1.d.rules⟩:g_),x1.b,j_ x1.applied 1⟩:a_6) a3 x3) λa4 I J=>if (I.code != 0) then some (I,J) else bd (d_C (⟨(⟨x1.d.rules⟩:g_),x1.b,J⟩:a_6) I.at_ a4) λa5=>some (a5,J) else if (G.kind==5) then bd2 (rec.impl_checker_array (⟨(⟨x1.d.rules⟩:g_),x1.b,j_ x1.applied 1⟩:a_6) G x3) λa6 a7=>some (a6,a7) else if (G.kind==6) then bd (G_ (σ:=Int×Int×Int) (ρ:=P_×Int) (λa8=>un3 λL O V=>bd (idx G.kids (a8:Int)) λa9=>bd2 (rec.impl_checker_value (⟨(⟨x1.d.rules⟩:g_),x1.b,L⟩:a_6) a9 O) λH W=>if (H.code != 0) then some (.brk (W,H.at_,H.code)) else some (.next (W,H.at_,H.code))) G.kids.length 0 (j_ x1.applied 1,x3,0)) (el (un3 λL O V=>some ((⟨O,V⟩:P_),L))<|λaa=>some aa) else if (G.kind==7) then bd2 (rec.impl_checker_choice (⟨(⟨x1.d.rules⟩:g_),x1.b,j_ x1.applied 1⟩:a_6) G x3) λab ad=>some (ab,ad) else if (G.kind==8) then bd2 (rec.impl_checker_option (⟨(⟨x1.d.rules⟩:g_),x1.b,j_ x1.applied 1⟩:a_6) G x3) λae af=>some (ae,af) else if (G.kind==9) then bd2 (rec.impl_checker_checked (⟨(⟨x1.d.rules⟩:g_),x1.b,j_ x1.applied 1⟩:a_6) G x3) λah ai=>some (ah,ai) else bd (idx G.bytes 0) λaj=>bd3 (f_G n x1.b x3 aj) λan ak al=>if (!al) then some ((⟨x3,1⟩:P_),j_ x1.applied 1) else some ((⟨ak,0⟩:P_),j_ x1.applied 1)
def h_f (n:Nat)(rec:f_H)(x1:a_6)(x2:d_)(x3:Int):Option (P_×Int) :=
 bd (idx x2.kids 0) λY=>bd3 (e_c x1 Y x3) λO L V=>bd (α:=Bool) (if (L.code==0) then some (decide<|40<O) else some false) (λa0=>if a0 then some ((⟨x3,6⟩:P_),V) else bd (a_a (σ:=Int×Int×Int×Int) (ρ:=P_×Int) (un4 λG H I J=>bd (α:=Bool) (if (decide<|0<G) then some (J==0) else some false) (λa1=>if a1 then bd (idx x2.kids 1) λa2=>bd2 (rec.impl_checker_value (⟨(⟨x1.d.rules⟩:g_),x1.b,H⟩:a_6) a2 I) λW a3=>some (.next (J_ G 1,a3,W.at_,W.code)) else some (.brk (G,H,I,J)))) n (O,V,L.at_,L.code)) (el (un4 λG H I J=>some ((⟨I,J⟩:P_),H))<|λa4=>some a4))
def h_g (n:Nat)(rec:f_H)(x1:a_6)(x2:d_)(x3:Int):Option (P_×Int) :=
 bd (idx x2.kids 0) λJ=>bd3 (e_c x1 J x3) λL G H=>if (G.code != 0) then some (G,H) else bd (G_ (σ:=Unit) (ρ:=P_×Int) (λI=>(λ(_:Unit)=>bd (idx x2.tags (I:Int)) λO=>if (O==L) then bd (idx x2.kids ((I+1:Nat):Int)) λV=>bd2 (rec.impl_checker_value (⟨(⟨x1.d.rules⟩:g_),x1.b,H⟩:a_6) V G.at_) λW Y=>some (.ret (W,Y)) else some (.next ()))) x2.tags.length 0 ()) (el (λ(_:Unit)=>some ((⟨x3,3⟩:P_),H))<|λa0=>some a0)
def h_h (n:Nat)(rec:f_H)(x1:a_6)(x2:d_)(x3:Int):Option (P_×Int) :=
 bd (d_C x1 x3 1) λG=>bd (α:=Bool) (if (G.code != 0) then some true else bd (idx x1.b x3) λH=>some<|(byteI H)==(byteI (0:UInt8))) (λI=>if I then some (G,x1.applied) else bd (idx x1.b x3) λJ=>if (decide<|(byteI (1:UInt8))<(byteI J)) then some ((⟨x3,4⟩:P_),x1.applied) else bd (idx x2.kids 0) λL=>bd2 (rec.impl_checker_value x1 L G.at_) λO V=>some (O,V))
def h_i (n:Nat)(rec:f_H)(x1:a_6)(x2:d_)(x3:Int):Option (P_×Int) :=
 bd (idx x2.kids 0) λJ=>bd2 (rec.impl_checker_value x1 J x3) λG H=>if (G.code != 0) then some (G,H) else bd (d_C (⟨(⟨x1.d.rules⟩:g_),x1.b,H⟩:a_6) G.at_ 1) λI=>bd (α:=Bool) (if (I.code==0) then bd (idx x1.b G.at_) λL=>bd (slc x1.b x3 G.at_) λO=>bd (e_d O) λV=>some ((byteI L) != V) else some false) (λW=>if W then some ((⟨G.at_,5⟩:P_),H) else some (I,H))
def a_G:Nat->f_H
 | 0=>⟨λ_ _ _=>none,λ_ _ _=>none,λ_ _ _=>none,λ_ _ _=>none,λ_ _ _=>none⟩
 | n+1=>⟨h_e n<|a_G n,h_f n<|a_G n,h_g n<|a_G n,h_h n<|a_G n,h_i n<|a_G n⟩
def m_Y (n:Nat):=(a_G n).impl_checker_value
def c_M (n:Nat)(x1:g_)(x2:Int)(x3:Bt)(x4:Int):Option (Int×Int) :=
 bd (α:=Bool) (bd (e_N n x1 x2) λH=>if (!H) then some true else if (decide<|x4<0) then some true else if (decide<|(x3.length:Int)<x4) then some true else some (decide<|400<(x3.length:Int))) (λI=>if I then some (0,8) else bd2 (m_Y n (⟨(⟨x1.rules⟩:g_),x3,0⟩:a_6) x2 x4) λG J=>some (G.at_,G.code))
def d_E (n:Nat)(x1:b_h)(x2:Int):Option (Bool×Int) :=
 bd2 (c_M n (⟨x1.d.rules⟩:g_) x2 x1.b x1.at_) λG H=>some (H==0,G)
def f_I (n:Nat)(x1:b_h)(x2:Int):Option (Int×Bool×Int) :=
 bd2 (d_E n x1 x2) λH G=>if (!H) then some (0,false,G) else bd (slc x1.b x1.at_ G) λI=>bd (idx x1.d.rules x2) λJ=>bd (d_D I J.little) λL=>some (L,true,G)
def h_j (n:Nat)(x1:b_h)(x2:d_)(x3:Str):Option (Bool×Int×Int) :=
 bd2 (f_F x3) λG V=>bd (idx x2.kids 0) λW=>bd3 (f_I n x1 W) λH Y I=>bd (α:=Bool) (if (!V) then some true else if (!Y) then some true else if (decide<|40<H) then some true else some (decide<|H<=G)) (λa0=>if a0 then some (false,x1.rule,I) else bd (a_a (σ:=Int×Int) (ρ:=Bool×Int×Int) (un2 λJ L=>if (decide<|0<J) then bd (idx x2.kids 1) λa1=>bd2 (d_E n (⟨(⟨x1.d.rules⟩:g_),x1.b,x1.rule,L⟩:b_h) a1) λa2 O=>if (!a2) then some (.ret (false,x1.rule,O)) else some (.next (J_ J 1,O)) else bd (idx x2.kids 1) λa3=>some<|.ret (true,a3,L)) n (G,I)) (el (λ_=>none)<|λa4=>some a4))
def h_k (n:Nat)(x1:b_h)(x2:d_)(x3:Str):Option (Bool×Int×Int) :=
 bd (G_ (σ:=Int) (ρ:=Bool×Int×Int) (λH=>(λG=>bd (idx x2.names (H:Int)) λJ=>if (J.b==x3.b) then bd (idx x2.kids (H:Int)) λL=>some (.ret (true,L,G)) else bd (α:=Bool×Int) (bd (e_M x2.names x3) λO=>if (!O) then some (true,G) else bd (idx x2.kids (H:Int)) λV=>bd2 (d_E n (⟨(⟨x1.d.rules⟩:g_),x1.b,x1.rule,G⟩:b_h) V) λW Y=>some (!W,Y)) (un2 λa0 I=>if a0 then some (.ret (false,x1.rule,I)) else some (.next I)))) x2.names.length 0 x1.at_) (el (λG=>some (false,x1.rule,G))<|λa1=>some a1)
def j_4 (x1:Int)(x2:Int):Option Bool :=
 some (x1==x2)
def h_l (x1:List Int)(G:Int):Option Int :=
 bd (G_ (σ:=Unit) (ρ:=Int) (λk10=>(λ(_:Unit)=>bd (idx x1 (k10:Int)) λH=>bd (j_4 H G) λI=>if I then some (.ret (k10:Int)) else some (.next ()))) x1.length 0 ()) (el (λ(_:Unit)=>some (-1))<|λJ=>some J)
def h_m (n:Nat)(x1:b_h)(x2:d_):Option (Bool×Int×Int) :=
 bd (idx x2.kids 0) λI=>bd3 (f_I n x1 I) λJ L G=>bd (h_l x2.tags J) λH=>bd (α:=Bool) (if (!L) then some true else some (decide<|H<0)) (λO=>if O then some (false,x1.rule,G) else bd (idx x2.kids<|j_ H 1) λV=>some (true,V,G))
def f_J (n:Nat)(x1:b_h)(x2:Str):Option (Bool×Int×Int) :=
 bd (idx x1.d.rules x1.rule) λG=>if (G.kind==5) then bd3 (h_j n x1 G x2) λH I J=>some (H,I,J) else if (G.kind==6) then bd3 (h_k n x1 G x2) λL O V=>some (L,O,V) else bd (α:=Bool) (if (G.kind==7) then some (x2.b==(⟨[42]⟩:Str).b) else some false) (λW=>if W then bd3 (h_m n x1 G) λY a0 a1=>some (Y,a0,a1) else bd (α:=Bool) (if (G.kind==8) then some (x2.b==(⟨[63]⟩:Str).b) else some false) (λa2=>bd (α:=Sum Int<|Bool×Int×Int) (if a2 then bd (α:=Bool) (if (decide<|(x1.b.length:Int)<=x1.at_) then some true else bd (idx x1.b x1.at_) λa3=>some<|(byteI a3) != (byteI (1:UInt8))) (λa4=>if a4 then some (.inr (false,x1.rule,x1.at_)) else some (.inl<|j_ x1.at_ 1)) else bd (α:=Bool) (if (G.kind==9) then some (x2.b==(⟨[43]⟩:Str).b) else some false) (λa5=>if a5 then some (.inl x1.at_) else some (.inr (false,x1.rule,x1.at_))))<|el (λa6=>bd (idx G.kids 0) λa7=>some (true,a7,a6)) some))
def b_Q (x1:Int)(x2:Int):Option (Option<|Int×Int) :=
 some (some (x1,x2))
def e_e (x1:a_z)(x2:Int)(x3:Int):Option (Bt×(Option<|Int×Int)) :=
 if (decide<|(J_ (x1.b.length:Int) x2)<x3) then bd (b_Q x2 1) λG=>some (([]:Bt),G) else bd (slc x1.b x2<|j_ x2 x3) λH=>some (H,none)
def e_f (x1:a_z)(x2:Int)(x3:Int):Option (Int×Int×(Option<|Int×Int)) :=
 bd (idx x1.d.rules x2) λG=>bd2 (e_e x1 x3 G.size) λI H=>if H.isSome then some (0,x3,H) else bd (d_D I G.little) λJ=>some (J,j_ x3 G.size,none)
def h_n (x1:a_z)(x2:d_)(x3:Int):Option (Int×(Option<|Int×Int)) :=
 bd (G_ (σ:=Unit) (ρ:=Int×(Option<|Int×Int)) (λk10=>(λ(_:Unit)=>bd (idx x2.bytes (k10:Int)) λG=>if (decide<|(x1.b.length:Int)<=(j_ x3 (k10:Int))) then bd (b_Q x3 1) λH=>some (.ret (x3,H)) else bd (idx x1.b<|j_ x3 (k10:Int)) λI=>if ((byteI I) != (byteI G)) then bd (b_Q (j_ x3 (k10:Int)) 2) λJ=>some (.ret (x3,J)) else some (.next ()))) x2.bytes.length 0 ()) (el (λ(_:Unit)=>some (j_ x3 (x2.bytes.length:Int),none))<|λL=>some L)
def f_K (x1:a_z)(x2:Int)(x3:Int):Option (Val×Int×(Option<|Int×Int)) :=
 bd2 (e_e x1 x2 x3) λH G=>if G.isSome then some ((⟨0,([]:Bt),([]:List Val)⟩:Val),x2,G) else bd (app ([]:Bt) H) λI=>some ((⟨0,I,([]:List Val)⟩:Val),j_ x2 x3,none)
structure e_O where
 impl_fileReader_value:a_z->Int->Int->Option (Val×Int×(Option<|Int×Int))
 impl_fileReader_array:a_z->d_->Int->Option (Val×Int×(Option<|Int×Int))
 impl_fileReader_items:a_z->Val->(List Int)->Int->Option (Val×Int×(Option<|Int×Int))
 impl_fileReader_choice:a_z->d_->Int->Option (Val×Int×(Option<|Int×Int))
 impl_fileReader_option:a_z->d_->Int->Option (Val×Int×(Option<|Int×Int))
 impl_fileReader_checked:a_z->d_->Int->Option (Val×Int×(Option<|Int×Int))
def h_o (n:Nat)(rec:e_O)(x1:a_z)(x2:Int)(x3:Int):Option (Val×Int×(Option<|Int×Int)) :=
 bd (idx x1.d.rules x2) λG=>if (G.kind==1) then bd3 (e_f x1 x2 x3) λI J L=>some ((⟨I,([]:Bt),([]:List Val)⟩:Val),J,L) else if (G.kind==2) then bd2 (h_n x1 G x3) λO V=>some ((⟨0,([]:Bt),([]:List Val)⟩:Val),O,V) else if (G.kind==3) then bd3 (f_K x1 x3 G.size) λW Y a0=>some (W,Y,a0) else if (G.kind==4) then bd (idx G.kids 0) λa1=>bd3 (e_f x1 a1 x3) λa2 a3 H=>if H.isSome then some ((⟨0,([]:Bt),([]:List Val)⟩:Val),x3,H) else bd3 (f_K x1 a3 a2) λa4 a5 a6=>some (a4,a5,a6) else if (G.kind==5) then bd3 (rec.impl_fileReader_array x1 G x3) λa7 a8 a9=>some (a7,a8,a9) else if (G.kind==6) then bd3 (rec.impl_fileReader_items x1 (⟨0,([]:Bt),([]:List Val)⟩:Val) G.kids x3) λaa ab ad=>some (aa,ab,ad) else if (G.kind==7) then bd3 (rec.impl_fileReader_choice x1 G x3) λae af ah=>some (ae,af,ah) else if (G.kind==8) then bd3 (rec.impl_fileReader_option x1 G x3) λai aj ak=>some (ai,aj,ak) else if (G.kind==9) then bd3 (rec.impl_fileReader_checked x1 G x3) λal am an=>some (al,am,an) else bd (idx G.bytes 0) λao=>bd3 (f_G n x1.b x3 ao) λap aq ar=>if (!ar) then bd (b_Q x3 1) λau=>some ((⟨0,([]:Bt),([]:List Val)⟩:Val),x3,au) else some ((⟨0,ap,([]:List Val)⟩:Val),aq,none)
def h_p (n:Nat)(rec:e_O)(x1:a_z)(x2:d_)(x3:Int):Option (Val×Int×(Option<|Int×Int)) :=
 bd (idx x2.kids 0) λL=>bd3 (e_f x1 L x3) λH O I=>if I.isSome then some ((⟨0,([]:Bt),([]:List Val)⟩:Val),x3,I) else if (decide<|40<H) then bd (b_Q x3 6) λV=>some ((⟨0,([]:Bt),([]:List Val)⟩:Val),x3,V) else bd (mk0 0 H) λJ=>bd (G_ (σ:=List Int) (ρ:=Val×Int×(Option<|Int×Int)) (λW=>(λG=>bd (idx x2.kids 1) λY=>bd (upd G (W:Int) Y) λa0=>some<|.next a0)) J.length 0 J)<|el (λG=>bd3 (rec.impl_fileReader_items x1 (⟨0,([]:Bt),([]:List Val)⟩:Val) G O) λa1 a2 a3=>some (a1,a2,a3))<|λa4=>some a4
def h_q (n:Nat)(rec:e_O)(x1:a_z)(x2:Val)(x3:List Int)(x4:Int):Option (Val×Int×(Option<|Int×Int)) :=
 bd (G_ (σ:=Int×(List Val)) (ρ:=Val×Int×(Option<|Int×Int)) (λJ=>un2 λG H=>bd (idx x3 (J:Int)) λL=>bd3 (rec.impl_fileReader_value x1 L G) λO V I=>if I.isSome then some (.ret ((⟨0,([]:Bt),([]:List Val)⟩:Val),G,I)) else bd (psh H O) λW=>some<|.next (V,W)) x3.length 0 (x4,x2.items)) (el (un2 λG H=>some ((⟨x2.number,x2.bytes,H⟩:Val),G,none))<|λY=>some Y)
def h_r (n:Nat)(rec:e_O)(x1:a_z)(x2:d_)(x3:Int):Option (Val×Int×(Option<|Int×Int)) :=
 bd (idx x2.kids 0) λI=>bd3 (e_f x1 I x3) λG J H=>if H.isSome then some ((⟨0,([]:Bt),([]:List Val)⟩:Val),x3,H) else bd (G_ (σ:=Unit) (ρ:=Val×Int×(Option<|Int×Int)) (λk10=>(λ(_:Unit)=>bd (idx x2.tags (k10:Int)) λL=>if (L==G) then bd (slc x2.kids ((k10+1:Nat):Int)<|j_ (k10:Int) 2) λO=>bd3 (rec.impl_fileReader_items x1 (⟨G,([]:Bt),([]:List Val)⟩:Val) O J) λV W Y=>some (.ret (V,W,Y)) else some (.next ()))) x2.tags.length 0 ()) (el (λ(_:Unit)=>bd (b_Q x3 3) λa0=>some ((⟨0,([]:Bt),([]:List Val)⟩:Val),x3,a0))<|λa1=>some a1)
def h_s (n:Nat)(rec:e_O)(x1:a_z)(x2:d_)(x3:Int):Option (Val×Int×(Option<|Int×Int)) :=
 bd2 (e_e x1 x3 1) λG H=>if H.isSome then some ((⟨0,([]:Bt),([]:List Val)⟩:Val),x3,H) else bd (idx G 0) λI=>if (decide<|(byteI (1:UInt8))<(byteI I)) then bd (b_Q x3 4) λJ=>some ((⟨0,([]:Bt),([]:List Val)⟩:Val),x3,J) else bd (idx G 0) λL=>if ((byteI L)==(byteI (0:UInt8))) then some ((⟨0,([]:Bt),([]:List Val)⟩:Val),j_ x3 1,none) else bd3 (rec.impl_fileReader_items x1 (⟨0,([]:Bt),([]:List Val)⟩:Val) x2.kids<|j_ x3 1) λO V W=>some (O,V,W)
def h_t (n:Nat)(rec:e_O)(x1:a_z)(x2:d_)(x3:Int):Option (Val×Int×(Option<|Int×Int)) :=
 bd3 (rec.impl_fileReader_items x1 (⟨0,([]:Bt),([]:List Val)⟩:Val) x2.kids x3) λJ G H=>if H.isSome then some ((⟨0,([]:Bt),([]:List Val)⟩:Val),x3,H) else bd2 (e_e x1 G 1) λL I=>if I.isSome then some ((⟨0,([]:Bt),([]:List Val)⟩:Val),x3,I) else bd (idx L 0) λO=>bd (slc x1.b x3 G) λV=>bd (e_d V) λW=>if ((byteI O) != W) then bd (b_Q G 5) λY=>some ((⟨0,([]:Bt),([]:List Val)⟩:Val),x3,Y) else some (J,j_ G 1,none)
def a_g:Nat->e_O
 | 0=>⟨λ_ _ _=>none,λ_ _ _=>none,λ_ _ _ _=>none,λ_ _ _=>none,λ_ _ _=>none,λ_ _ _=>none⟩
 | n+1=>⟨h_o n<|a_g n,h_p n<|a_g n,h_q n<|a_g n,h_r n<|a_g n,h_s n<|a_g n,h_t n<|a_g n⟩
def j_5 (n:Nat):=(a_g n).impl_fileReader_value
def e_P (n:Nat):=(a_g n).impl_fileReader_items
def h_u (n:Nat)(x1:g_)(x2:Int)(x3:Bt)(x4:Int):Option (Val×Int×Int) :=
 bd (α:=Bool) (bd (e_N n x1 x2) λH=>if (!H) then some true else if (decide<|x4<0) then some true else if (decide<|(x3.length:Int)<x4) then some true else some (decide<|400<(x3.length:Int))) (λI=>if I then some ((⟨0,([]:Bt),([]:List Val)⟩:Val),0,8) else bd3 (j_5 n (⟨(⟨x1.rules⟩:g_),x3⟩:a_z) x2 x4) λJ L G=>if G.isSome then (bd2 G λO V=>some ((⟨0,([]:Bt),([]:List Val)⟩:Val),O,V)) else some (J,L,0))
def h_v (n:Nat)(x1:g_)(x2:Bt):Option (Val×Int×Int) :=
 bd (α:=Int×Bt×(List Val)×Int×Int) (bd (d_B x1) λJ=>bd3 (h_u n x1 J x2 0) λG L O=>some (G.number,G.bytes,G.items,L,O)) (un5 λV W Y H I=>bd (α:=Bool) (if (I==0) then some (decide<|H<(x2.length:Int)) else some false) (λa0=>if a0 then some ((⟨0,([]:Bt),([]:List Val)⟩:Val),H,7) else some ((⟨V,W,Y⟩:Val),H,I)))
def f_L (n:Nat)(x1:g_)(x2:Bt):Option Bool :=
 bd3 (h_v n x1 x2) λH I G=>some<|G==0
def j_6 (x1:Int):Option Str :=
 bd (j_j x1) λG=>some G
def e_g (n:Nat)(x1:g_)(x2:Int)(x3:Int):Option Str :=
 bd (α:=Bool) (bd (e_N n x1 x2) λH=>if (!H) then some true else some (decide<|x3<0)) (λI=>if I then some (⟨[]⟩:Str) else bd (idx x1.rules x2) λG=>if (G.kind==5) then bd (j_6 x3) λJ=>some J else bd (α:=Bool) (if (G.kind==6) then some (decide<|x3<(G.names.length:Int)) else some false) (λL=>if L then bd (idx G.names x3) λO=>some O else if (decide<|0<x3) then some (⟨[]⟩:Str) else if (G.kind==7) then some (⟨[42]⟩:Str) else if (G.kind==8) then some (⟨[63]⟩:Str) else if (G.kind==9) then some (⟨[43]⟩:Str) else some (⟨[]⟩:Str)))
def e_Q (x1:Int)(x2:Int):Option Int :=
 if (decide<|x2<x1) then some x2 else some x1
def f_M (n:Nat)(x1:Int)(x2:Int):Option Bt :=
 bd (α:=Bool) (bd (b_1 x2 1 4) λI=>if (!I) then some true else bd (d_A x2) λJ=>bd (b_1 x1 0<|J_ J 1) λL=>some (!L)) (λO=>if O then some ([]:Bt) else bd (a_a (σ:=Bt×Int) (ρ:=Bt) (un2 λH G=>if (decide<|0<=G) then bd (nn<|a_f 8 G) λY=>bd (psh H<|mkB<|c_9 .i64 x1<|a_f 8 G) λV=>some (.next (V,J_ G 1)) else some (.brk (H,G))) n (([]:Bt),J_ x2 1)) (el (un2 λH G=>some H)<|λW=>some W))
end Go.Vw
namespace Go.Vw
def h_B (x1:Bt):Option Bool :=
 some (decide<|1048576<(x1.length:Int))
def e_T (n:Nat)(x1:Bt):Option u_ :=
 bd (a_a (σ:=Int×Int) (ρ:=u_) (un2 λH G=>bd (α:=Bool) (if (decide<|G<(x1.length:Int)) then some (decide<|G<4000) else some false) (λI=>if I then bd (idx x1 G) λJ=>some (.next (a_H .i64 (· &&& ·) (j_ (j_ (a_f H 137)<|byteI J) 11) 1073741823,j_ G 1)) else some (.brk (H,G)))) n (j_ 193017 (x1.length:Int),0)) (el (un2 λH G=>some (⟨x1,0,H⟩:u_))<|λL=>some L)
def c_P (x1:u_):Option (Int×Int×Int) :=
 bd (α:=Int×Int) (if (decide<|x1.i<(x1.b.length:Int)) then bd (idx x1.b x1.i) λG=>some (a_H .i64 (· &&& ·) (j_ (a_H .i64 (· &&& ·) (a_H .i64 (· ^^^ ·) (c_9 .i64 (j_ (a_f x1.h 6364136223846793005) 1442695040888963407) 33)<|c_9 .i64 (j_ (a_f x1.h 6364136223846793005) 1442695040888963407) 47) 255)<|byteI G) 255,j_ x1.i 1) else some (a_H .i64 (· &&& ·) (a_H .i64 (· ^^^ ·) (c_9 .i64 (j_ (a_f x1.h 6364136223846793005) 1442695040888963407) 33)<|c_9 .i64 (j_ (a_f x1.h 6364136223846793005) 1442695040888963407) 47) 255,x1.i)) (un2 λH I=>some (H,I,j_ (a_f x1.h 6364136223846793005) 1442695040888963407))
def a_5 (x1:u_)(x2:Int):Option (Int×Int×Int) :=
 if (decide<|x2<=0) then some (0,x1.i,x1.h) else if (decide<|x2<=256) then bd3 (c_P x1) λG H I=>bd (nz x2) λa3=>some (a_8 G x2,H,I) else bd3 (c_P x1) λJ L O=>bd3 (c_P (⟨x1.b,L,O⟩:u_)) λV W Y=>bd3 (c_P (⟨x1.b,W,Y⟩:u_)) λa0 a1 a2=>bd (nz x2) λa4=>some (a_8 (j_ (j_ (a_f J 65536)<|a_f V 256) a0) x2,a1,a2)
def c_Q (x1:u_)(x2:List Str):Option (Str×Int×Int) :=
 bd3 (a_5 x1 (x2.length:Int)) λG H I=>bd (idx x2 G) λJ=>some (J,H,I)
def d_a (x1:u_)(x2:Int):Option (Bool×Int×Int) :=
 bd3 (a_5 x1 x2) λG H I=>some (G==0,H,I)
def d_b (x1:u_)(x2:Int):Option (Bt×Int×Int) :=
 bd (G_ (σ:=Bt×Int×Int) (ρ:=Bt×Int×Int) (λY=>un3 λG H I=>bd3 (c_P (⟨x1.b,H,I⟩:u_)) λJ L O=>bd (psh G<|mkB J) λV=>some<|.next (V,L,O)) x2.toNat 0 (([]:Bt),x1.i,x1.h)) (el (un3 λG H I=>some (G,H,I))<|λW=>some W)
def c_w (x1:u_)(x2:List Int):Option (Int×Int×Int) :=
 bd3 (a_5 x1 (x2.length:Int)) λG H I=>bd (idx x2 G) λJ=>some (J,H,I)
def e_h (x1:u_)(x2:g_):Option (Int×Int×Int) :=
 bd (G_ (σ:=List Int) (ρ:=Int×Int×Int) (λH=>(λG=>bd (idx x2.rules (H:Int)) λI=>bd (α:=List Int) (if (I.kind==1) then bd (psh G (H:Int)) λJ=>some J else some G)<|λL=>some<|.next L)) x2.rules.length 0 ([]:List Int)) (el (λG=>bd3 (c_w x1 G) λO V W=>some (O,V,W))<|λY=>some Y)
def d_c (n:Nat)(x1:u_)(x2:g_)(x3:Int):Option (d_×Int×Int) :=
 bd3 (c_Q x1 [(⟨[97]⟩:Str),(⟨[105,116,101,109]⟩:Str),(⟨[98]⟩:Str),(⟨[104,101,97,100]⟩:Str),(⟨[120]⟩:Str)]) λa6 G H=>bd (e_9 n (x2.rules.length:Int)) λa7=>bd (cat a6 a7) λa8=>bd (α:=Sum (Int×Int×Int×Bool×Bt×(List Str)×(List Int)×(List Int))<|d_×Int×Int) (if (x3==1) then bd3 (a_5 (⟨x1.b,G,H⟩:u_) 3) λa3 a4 a5=>bd (α:=Int×Int×Bool) (if (decide<|1<(j_ 1 a3)) then bd3 (d_a (⟨x1.b,a4,a5⟩:u_) 2) λa9 aa ab=>some (aa,ab,a9) else some (a4,a5,false)) (un3 λad ae af=>some<|.inl (ad,ae,j_ 1 a3,af,([]:Bt),([]:List Str),([]:List Int),([]:List Int))) else bd (α:=Sum (Int×Int×Int×Bt×(List Str)×(List Int)×(List Int))<|Sum (Int×Int×Int×Bool×Bt×(List Str)×(List Int)×(List Int))<|d_×Int×Int) (if (x3==2) then bd3 (a_5 (⟨x1.b,G,H⟩:u_) 3) λah ai aj=>bd3 (d_b (⟨x1.b,ai,aj⟩:u_)<|j_ 1 ah) λak al am=>some (.inl (al,am,0,ak,([]:List Str),([]:List Int),([]:List Int))) else bd (α:=Sum (Int×Int×Int×Bt×(List Str)×(List Int)×(List Int))<|Sum (Int×Int×Int×Bt×(List Str)×(List Int)×(List Int))<|Sum (Int×Int×Int×Bool×Bt×(List Str)×(List Int)×(List Int))<|d_×Int×Int) (if (x3==3) then bd3 (a_5 (⟨x1.b,G,H⟩:u_) 4) λan ao ap=>some (.inl (ao,ap,j_ 1 an,([]:Bt),([]:List Str),([]:List Int),([]:List Int))) else bd (α:=Sum (Int×Int×Bt×(List Str)×(List Int)×(List Int))<|Sum (Int×Int×Int×Bt×(List Str)×(List Int)×(List Int))<|Sum (Int×Int×Int×Bt×(List Str)×(List Int)×(List Int))<|Sum (Int×Int×Int×Bool×Bt×(List Str)×(List Int)×(List Int))<|d_×Int×Int) (if (x3==4) then bd3 (e_h (⟨x1.b,G,H⟩:u_) x2) λaq ar au=>some (.inl (ar,au,([]:Bt),([]:List Str),([]:List Int),[aq])) else bd (α:=Sum (Int×Int×Bt×(List Str)×(List Int)×(List Int))<|Sum (Int×Int×Bt×(List Str)×(List Int)×(List Int))<|Sum (Int×Int×Int×Bt×(List Str)×(List Int)×(List Int))<|Sum (Int×Int×Int×Bt×(List Str)×(List Int)×(List Int))<|Sum (Int×Int×Int×Bool×Bt×(List Str)×(List Int)×(List Int))<|d_×Int×Int) (if (x3==5) then bd3 (e_h (⟨x1.b,G,H⟩:u_) x2) λav aw ax=>bd3 (a_5 (⟨x1.b,aw,ax⟩:u_) (x2.rules.length:Int)) λay az aA=>some (.inl (az,aA,([]:Bt),([]:List Str),([]:List Int),[av,ay])) else bd (α:=Sum (Int×Int×Bt×(List Str)×(List Int)×(List Int))<|Sum (Int×Int×Bt×(List Str)×(List Int)×(List Int))<|Sum (Int×Int×Bt×(List Str)×(List Int)×(List Int))<|Sum (Int×Int×Int×Bt×(List Str)×(List Int)×(List Int))<|Sum (Int×Int×Int×Bt×(List Str)×(List Int)×(List Int))<|Sum (Int×Int×Int×Bool×Bt×(List Str)×(List Int)×(List Int))<|d_×Int×Int) (if (x3==6) then bd3 (a_5 (⟨x1.b,G,H⟩:u_) 3) λaB aC aD=>bd (a_a (σ:=Int×Int×Int×(List Str)×(List Int)) (ρ:=d_×Int×Int) (un5 λI L O V W=>if (decide<|0<I) then bd3 (c_Q (⟨x1.b,L,O⟩:u_) [(⟨[112]⟩:Str),(⟨[113]⟩:Str),(⟨[114]⟩:Str)]) λaE aF aG=>bd (e_9 n I) λaH=>bd (cat aE aH) λaI=>bd (psh V aI) λaJ=>bd3 (a_5 (⟨x1.b,aF,aG⟩:u_) (x2.rules.length:Int)) λaK aL aM=>bd (psh W aK) λaN=>some (.next (J_ I 1,aL,aM,aJ,aN)) else some (.brk (I,L,O,V,W))) n (j_ 1 aB,aC,aD,([]:List Str),([]:List Int))) (el (un5 λI L O V W=>some<|.inl (L,O,([]:Bt),V,([]:List Int),W))<|λaO=>some<|.inr<|.inr<|.inr<|.inr<|.inr<|.inr aO) else bd (α:=Sum (Int×Int×Bt×(List Int)×(List Int))<|Sum (Int×Int×Bt×(List Str)×(List Int)×(List Int))<|Sum (Int×Int×Bt×(List Str)×(List Int)×(List Int))<|Sum (Int×Int×Bt×(List Str)×(List Int)×(List Int))<|Sum (Int×Int×Int×Bt×(List Str)×(List Int)×(List Int))<|Sum (Int×Int×Int×Bt×(List Str)×(List Int)×(List Int))<|Sum (Int×Int×Int×Bool×Bt×(List Str)×(List Int)×(List Int))<|d_×Int×Int) (if (x3==7) then bd3 (e_h (⟨x1.b,G,H⟩:u_) x2) λaP aQ aR=>bd3 (a_5 (⟨x1.b,aQ,aR⟩:u_) 3) λaS aT aU=>bd (a_a (σ:=Int×Int×Int×(List Int)×(List Int)) (ρ:=d_×Int×Int) (un5 λY a0 a1 J a2=>if (decide<|0<Y) then bd3 (a_5 (⟨x1.b,a0,a1⟩:u_) 4) λaV aW aX=>bd (psh J<|j_ (a_f 4 (J.length:Int)) aV) λaY=>bd3 (a_5 (⟨x1.b,aW,aX⟩:u_) (x2.rules.length:Int)) λaZ b0 b1=>bd (psh a2 aZ) λb2=>some (.next (J_ Y 1,b0,b1,aY,b2)) else some (.brk (Y,a0,a1,J,a2))) n (j_ 1 aS,aT,aU,([]:List Int),[aP])) (el (un5 λY a0 a1 J a2=>some<|.inl (a0,a1,([]:Bt),J,a2))<|λb3=>some<|.inr<|.inr<|.inr<|.inr<|.inr<|.inr<|.inr b3) else bd (α:=Bool) (if (x3==8) then some (x3==8) else some (x3==9)) (λb4=>bd (α:=Int×Int×Bt×(List Int)) (if b4 then bd3 (a_5 (⟨x1.b,G,H⟩:u_) (x2.rules.length:Int)) λb5 b6 b7=>some (b6,b7,([]:Bt),[b5]) else bd (α:=Int×Int×Bt) (if (x3==10) then bd3 (c_w (⟨x1.b,G,H⟩:u_) [0,10,59,255]) λb8 b9 ba=>some (b9,ba,[mkB b8]) else some (G,H,([]:Bt))) (un3 λbb bc be=>some (bb,bc,be,([]:List Int))))<|un4 λbf bg bh bi=>some<|.inl (bf,bg,bh,([]:List Int),bi))) (el (un5 λbj bk bm bn bo=>some<|.inl (bj,bk,bm,([]:List Str),bn,bo)) some)) (el (un6 λbp bq br bs bt bu=>some<|.inl (bp,bq,br,bs,bt,bu)) some)) (el (un6 λbv bw bx bz bA bB=>some<|.inl (bv,bw,bx,bz,bA,bB)) some)) (el (un6 λbC bD bE bF bG bH=>some<|.inl (bC,bD,0,bE,bF,bG,bH)) some)) (el (un7 λbI bJ bK bL bM bN bO=>some<|.inl (bI,bJ,bK,bL,bM,bN,bO)) some)) (el (un7 λbP bQ bR bS bT bU bV=>some<|.inl (bP,bQ,bR,false,bS,bT,bU,bV)) some))<|el (un8 λbW bX bY bZ c0 c1 c2 c3=>some ((⟨a8,x3,bY,bZ,c0,c1,c2,c3⟩:d_),bW,bX)) some
def e_i (n:Nat)(x1:u_):Option (g_×Int×Int) :=
 bd3 (d_c n x1 (⟨([]:List d_)⟩:g_) 1) λL O V=>bd (psh ([]:List d_) L) λW=>bd3 (a_5 (⟨x1.b,O,V⟩:u_) 6) λY a0 a1=>bd (a_a (σ:=Int×Int×Int×(List d_)) (ρ:=g_×Int×Int) (un4 λH I J G=>if (decide<|0<H) then bd3 (a_5 (⟨x1.b,I,J⟩:u_) 10) λa2 a3 a4=>bd3 (d_c n (⟨x1.b,a3,a4⟩:u_) (⟨G⟩:g_)<|j_ 1 a2) λa5 a6 a7=>bd (psh G a5) λa8=>some (.next (J_ H 1,a6,a7,a8)) else some (.brk (H,I,J,G))) n (Y,a0,a1,W))<|el (un4 λH I J G=>some ((⟨G⟩:g_),I,J))<|λa9=>some a9
structure h_C where
 spec_l9Make:u_->g_->Int->Int->Option (Val×Int×Int)
def f_R (n:Nat)(rec:h_C)(x1:u_)(x2:g_)(x3:Int)(x4:Int):Option (Val×Int×Int) :=
 bd (idx x2.rules x3) λG=>bd (α:=Sum (Int×Int×Int×Bt×(List Val))<|Val×Int×Int) (if (G.kind==1) then bd (d_A G.size) λa7=>bd (e_Q a7 70000) λa8=>bd3 (a_5 x1 a8) λa9 aa ab=>some (.inl (aa,ab,a9,([]:Bt),([]:List Val))) else bd (α:=Sum (Int×Int×Int×Bt×(List Val))<|Sum (Int×Int×Int×Bt×(List Val))<|Val×Int×Int) (if (G.kind==3) then bd3 (d_b x1 G.size) λad ae af=>some (.inl (ae,af,0,ad,([]:List Val))) else bd (α:=Bool) (if (G.kind==4) then some (G.kind==4) else some (G.kind==10)) (λah=>bd (α:=Sum (Int×Int×Int×Bt×(List Val))<|Sum (Int×Int×Int×Bt×(List Val))<|Sum (Int×Int×Int×Bt×(List Val))<|Val×Int×Int) (if ah then bd (e_Q x4 6) λai=>bd3 (a_5 x1<|j_ ai 1) λaj ak al=>bd3 (d_b (⟨x1.b,ak,al⟩:u_) aj) λO V W=>bd (α:=Bool×Int×Int) (if (G.kind==10) then if (decide<|0<(O.length:Int)) then bd3 (d_a (⟨x1.b,V,W⟩:u_) 2) λam an ao=>some (am,an,ao) else some (false,V,W) else some (false,V,W)) (un3 λap a2 a3=>bd (α:=Int×Int×Bt) (if ap then bd (idx G.bytes 0) λaq=>bd3 (c_w (⟨x1.b,a2,a3⟩:u_) [byteI aq,92]) λar au av=>bd (upd O 0<|mkB ar) λaw=>some (au,av,aw) else some (a2,a3,O))<|un3 λax ay az=>some<|.inl (ax,ay,0,az,([]:List Val))) else bd (α:=Sum (Int×Int×Int×(List Val))<|Sum (Int×Int×Int×Bt×(List Val))<|Sum (Int×Int×Int×Bt×(List Val))<|Sum (Int×Int×Int×Bt×(List Val))<|Val×Int×Int) (if (G.kind==5) then bd (e_Q x4 3) λaA=>bd3 (a_5 x1<|j_ aA 1) λaB aC aD=>bd (a_a (σ:=Int×Int×Int×(List Val)) (ρ:=Val×Int×Int) (un4 λH I J L=>if (decide<|0<H) then bd (idx G.kids 1) λaE=>bd3 (rec.spec_l9Make (⟨x1.b,I,J⟩:u_) x2 aE<|c_4 x4 2) λaF aG aH=>bd (psh L aF) λaI=>some (.next (J_ H 1,aG,aH,aI)) else some (.brk (H,I,J,L))) n (aB,aC,aD,([]:List Val))) (el (un4 λH I J L=>some<|.inl (I,J,0,L))<|λaJ=>some<|.inr<|.inr<|.inr<|.inr aJ) else bd (α:=Sum (Int×Int×Int×(List Val))<|Sum (Int×Int×Int×(List Val))<|Sum (Int×Int×Int×Bt×(List Val))<|Sum (Int×Int×Int×Bt×(List Val))<|Sum (Int×Int×Int×Bt×(List Val))<|Val×Int×Int) (if (G.kind==6) then bd (G_ (σ:=Int×Int×(List Val)) (ρ:=Val×Int×Int) (λaK=>un3 λY a0 a1=>bd (idx G.kids (aK:Int)) λaL=>bd3 (rec.spec_l9Make (⟨x1.b,Y,a0⟩:u_) x2 aL<|c_4 x4 2) λaM aN aO=>bd (psh a1 aM) λaP=>some<|.next (aN,aO,aP)) G.kids.length 0 (x1.i,x1.h,([]:List Val))) (el (un3 λY a0 a1=>some<|.inl (Y,a0,0,a1))<|λaQ=>some<|.inr<|.inr<|.inr<|.inr<|.inr aQ) else bd (α:=Int×Int×Int×(List Val)) (if (G.kind==7) then bd3 (a_5 x1 (G.tags.length:Int)) λa4 aR aS=>bd (idx G.tags a4) λaT=>bd (idx G.kids<|j_ a4 1) λaU=>bd3 (rec.spec_l9Make (⟨x1.b,aR,aS⟩:u_) x2 aU<|c_4 x4 2) λaV aW aX=>some (aW,aX,aT,[aV]) else bd (α:=Int×Int×(List Val)) (if (G.kind==8) then bd3 (d_a x1 2) λaY a5 a6=>bd (α:=Int×Int×(List Val)) (if aY then bd (idx G.kids 0) λaZ=>bd3 (rec.spec_l9Make (⟨x1.b,a5,a6⟩:u_) x2 aZ<|c_4 x4 2) λb0 b1 b2=>some (b1,b2,[b0]) else some (a5,a6,([]:List Val))) (un3 λb3 b4 b5=>some (b3,b4,b5)) else bd (α:=Int×Int×(List Val)) (if (G.kind==9) then bd (idx G.kids 0) λb6=>bd3 (rec.spec_l9Make x1 x2 b6<|c_4 x4 2) λb7 b8 b9=>some (b8,b9,[b7]) else some (x1.i,x1.h,([]:List Val))) (un3 λba bb bc=>some (ba,bb,bc))) (un3 λbe bf bg=>some (be,bf,0,bg))) (un4 λbh bi bj bk=>some<|.inl (bh,bi,bj,bk))) (el (un4 λbm bn bo bp=>some<|.inl (bm,bn,bo,bp)) some)) (el (un4 λbq br bs bt=>some<|.inl (bq,br,bs,([]:Bt),bt)) some))<|el (un5 λbu bv bw bx bz=>some<|.inl (bu,bv,bw,bx,bz)) some)) (el (un5 λbA bB bC bD bE=>some<|.inl (bA,bB,bC,bD,bE)) some))<|el (un5 λbF bG bH bI bJ=>some ((⟨bH,bI,bJ⟩:Val),bF,bG)) some
def e_j:Nat->h_C
 | 0=>⟨λ_ _ _ _=>none⟩
 | n+1=>⟨f_R n<|e_j n⟩
def h_D (n:Nat):=(e_j n).spec_l9Make
def f_S (n:Nat)(x1:Int)(x2:Int):Option Bt :=
 bd (f_M n x1 x2) λI=>bd (a_a (σ:=Bt×Int) (ρ:=Bt) (un2 λH G=>if (decide<|0<=G) then bd (idx I G) λJ=>bd (psh H J) λL=>some (.next (L,J_ G 1)) else some (.brk (H,G))) n (([]:Bt),J_ (I.length:Int) 1))<|el (un2 λH G=>some H)<|λO=>some O
def d_H (n:Nat)(x1:d_)(x2:Int):Option Bt :=
 if x1.little then bd (f_S n x2 x1.size) λG=>some G else bd (f_M n x2 x1.size) λH=>some H
structure k_S where
 spec_l11Print:g_->Int->Val->Option Bt
def f_T (n:Nat)(rec:k_S)(x1:g_)(x2:Int)(x3:Val):Option Bt :=
 bd (idx x1.rules x2) λG=>bd (G_ (σ:=Bt) (ρ:=Bt) (λL=>(λH=>bd (idx x3.items (L:Int)) λO=>bd (d_7 G x3.number (L:Int)) λV=>bd (rec.spec_l11Print x1 V O) λW=>bd (app H W) λY=>some<|.next Y)) x3.items.length 0 ([]:Bt)) (el (λH=>if (G.kind==1) then bd (d_H n G x3.number) λa0=>some a0 else if (G.kind==2) then bd (app ([]:Bt) G.bytes) λa1=>some a1 else if (G.kind==4) then bd (idx G.kids 0) λa2=>bd (idx x1.rules a2) λa3=>bd (d_H n a3 (x3.bytes.length:Int)) λa4=>bd (app a4 x3.bytes) λa5=>some a5 else if (G.kind==5) then bd (idx G.kids 0) λa6=>bd (idx x1.rules a6) λa7=>bd (d_H n a7 (x3.items.length:Int)) λa8=>bd (app a8 H) λa9=>some a9 else if (G.kind==7) then bd (idx G.kids 0) λaa=>bd (idx x1.rules aa) λab=>bd (d_H n ab x3.number) λad=>bd (app ad H) λae=>some ae else if (G.kind==8) then bd (app [mkB (x3.items.length:Int)] H) λaf=>some af else if (G.kind==9) then bd (f_B H) λah=>bd (psh H<|mkB ah) λai=>some ai else if (G.kind==10) then bd (G_ (σ:=Bt) (ρ:=Bt) (λJ=>(λI=>bd (α:=Bool) (bd (idx x3.bytes (J:Int)) λaj=>bd (idx G.bytes 0) λak=>if ((byteI aj)==(byteI ak)) then some true else bd (idx x3.bytes (J:Int)) λal=>some<|(byteI al)==(byteI (92:UInt8))) (λam=>bd (α:=Bt) (if am then bd (psh I (92:UInt8)) λan=>some an else some I)<|λao=>bd (idx x3.bytes (J:Int)) λap=>bd (psh ao ap) λaq=>some<|.next aq))) x3.bytes.length 0 H) (el (λI=>bd (idx G.bytes 0) λar=>bd (psh I ar) λau=>some au)<|λav=>some av) else if (G.kind==3) then bd (app ([]:Bt) x3.bytes) λaw=>some aw else some H)<|λax=>some ax)
def d_I:Nat->k_S
 | 0=>⟨λ_ _ _=>none⟩
 | n+1=>⟨f_T n<|d_I n⟩
def h_E (n:Nat):=(d_I n).spec_l11Print
def e_k (x1:Bt)(x2:Bt):Option Bool :=
 if ((x1.length:Int) != (x2.length:Int)) then some false else bd (G_ (σ:=Unit) (ρ:=Bool) (λk10=>(λ(_:Unit)=>bd (idx x1 (k10:Int)) λG=>bd (idx x2 (k10:Int)) λH=>if ((byteI G) != (byteI H)) then some (.ret false) else some (.next ()))) x1.length 0 ()) (el (λ(_:Unit)=>some true)<|λI=>some I)
end Go.Vw
namespace Go.Vw
def f_U (x1:u_)(x2:Bt):Option (Bt×Int×Int) :=
 bd (app ([]:Bt) x2) λG=>bd3 (a_5 x1 6) λJ H I=>bd (α:=Bt×Int×Int) (if (J==0) then bd (α:=Bt×Int×Int) (if (decide<|0<(G.length:Int)) then bd3 (a_5 (⟨x1.b,H,I⟩:u_) (G.length:Int)) λL O V=>bd3 (a_5 (⟨x1.b,O,V⟩:u_) 256) λW Y a0=>bd (upd G L<|mkB W) λa1=>some (a1,Y,a0) else some (G,H,I)) (un3 λa2 a3 a4=>some (a2,a3,a4)) else bd (α:=Bt×Int×Int) (if (J==1) then bd3 (a_5 (⟨x1.b,H,I⟩:u_)<|j_ (G.length:Int) 1) λa5 a6 a7=>bd (slc G 0 a5) λa8=>some (a8,a6,a7) else bd (α:=Bt×Int×Int) (if (J==2) then bd3 (c_w (⟨x1.b,H,I⟩:u_) [0,1,128,255]) λa9 aa ab=>bd (psh G<|mkB a9) λad=>some (ad,aa,ab) else some (G,H,I)) (un3 λae af ah=>some (ae,af,ah))) (un3 λai aj ak=>some (ai,aj,ak)))<|un3 λal am an=>some (al,am,an)
def f_V (n:Nat)(x1:u_):Option (g_×Int×Int) :=
 bd3 (e_i n x1) λG a4 a5=>bd3 (a_5 (⟨x1.b,a4,a5⟩:u_) (G.rules.length:Int)) λH a6 a7=>bd3 (a_5 (⟨x1.b,a6,a7⟩:u_) 16) λL I J=>bd (α:=Sum (Int×Int×(List d_))<|g_×Int×Int) (if (L==0) then bd (idx G.rules 0) λa8=>bd3 (c_Q (⟨x1.b,I,J⟩:u_) [(⟨[]⟩:Str),(⟨[65]⟩:Str),a8.name,(⟨[118,101,114,121,108,111,110,103,110,97,109,101,105,110,100,101,101,100]⟩:Str)]) λa9 aa ab=>bd (idx G.rules H) λa0=>bd (upd G.rules H (⟨a9,a0.kind,a0.size,a0.little,a0.bytes,a0.names,a0.tags,a0.kids⟩:d_)) λad=>some (.inl (aa,ab,ad)) else bd (α:=Sum (Int×Int×(List d_))<|Sum (Int×Int×(List d_))<|g_×Int×Int) (if (L==1) then bd3 (a_5 (⟨x1.b,I,J⟩:u_) 13) λae af ah=>bd (idx G.rules H) λa1=>bd (upd G.rules H (⟨a1.name,J_ ae 1,a1.size,a1.little,a1.bytes,a1.names,a1.tags,a1.kids⟩:d_)) λai=>some (.inl (af,ah,ai)) else bd (α:=Sum (Int×Int×(List d_))<|Sum (Int×Int×(List d_))<|Sum (Int×Int×(List d_))<|g_×Int×Int) (if (L==2) then bd3 (c_w (⟨x1.b,I,J⟩:u_) [(-1),0,1,4,5,64,65]) λaj ak al=>bd (idx G.rules H) λa2=>bd (upd G.rules H (⟨a2.name,a2.kind,aj,a2.little,a2.bytes,a2.names,a2.tags,a2.kids⟩:d_)) λam=>some (.inl (ak,al,am)) else bd (α:=Sum (Int×Int×(List d_))<|Sum (Int×Int×(List d_))<|Sum (Int×Int×(List d_))<|Sum (Int×Int×(List d_))<|g_×Int×Int) (if (L==3) then bd (idx G.rules H) λan=>bd (idx G.rules H) λa3=>bd (upd G.rules H (⟨a3.name,a3.kind,a3.size,!an.little,a3.bytes,a3.names,a3.tags,a3.kids⟩:d_)) λao=>some (.inl (I,J,ao)) else bd (α:=Sum (Int×Int×(List d_))<|Sum (Int×Int×(List d_))<|Sum (Int×Int×(List d_))<|Sum (Int×Int×(List d_))<|Sum (Int×Int×(List d_))<|g_×Int×Int) (if (L==4) then bd (α:=Int×Int×(List d_)) (bd (idx G.rules H) λO=>bd3 (a_5 (⟨x1.b,I,J⟩:u_) 8) λap aq ar=>bd (psh O.kids<|J_ ap 1) λau=>some (aq,ar,G.rules.set (H).toNat (⟨O.name,O.kind,O.size,O.little,O.bytes,O.names,O.tags,au⟩:d_))) (un3 λav aw ax=>some<|.inl (av,aw,ax)) else bd (α:=Sum (Int×Int×(List d_))<|Sum (Int×Int×(List d_))<|Sum (Int×Int×(List d_))<|Sum (Int×Int×(List d_))<|Sum (Int×Int×(List d_))<|Sum (Int×Int×(List d_))<|g_×Int×Int) (if (L==5) then bd (α:=Int×Int×(List d_)) (bd (idx G.rules H) λV=>bd3 (c_w (⟨x1.b,I,J⟩:u_) [0,92]) λay az aA=>bd (psh V.bytes<|mkB ay) λaB=>some (az,aA,G.rules.set (H).toNat (⟨V.name,V.kind,V.size,V.little,aB,V.names,V.tags,V.kids⟩:d_))) (un3 λaC aD aE=>some<|.inl (aC,aD,aE)) else bd (α:=Sum (Int×Int×(List d_))<|Sum (Int×Int×(List d_))<|Sum (Int×Int×(List d_))<|Sum (Int×Int×(List d_))<|Sum (Int×Int×(List d_))<|Sum (Int×Int×(List d_))<|Sum (Int×Int×(List d_))<|g_×Int×Int) (if (L==6) then bd (α:=Int×Int×(List d_)) (bd (idx G.rules H) λW=>bd3 (c_Q (⟨x1.b,I,J⟩:u_) [(⟨[112,49]⟩:Str),(⟨[81]⟩:Str),(⟨[122]⟩:Str)]) λaF aG aH=>bd (psh W.names aF) λaI=>some (aG,aH,G.rules.set (H).toNat (⟨W.name,W.kind,W.size,W.little,W.bytes,aI,W.tags,W.kids⟩:d_))) (un3 λaJ aK aL=>some<|.inl (aJ,aK,aL)) else bd (α:=Sum (Int×Int×(List d_))<|Sum (Int×Int×(List d_))<|Sum (Int×Int×(List d_))<|Sum (Int×Int×(List d_))<|Sum (Int×Int×(List d_))<|Sum (Int×Int×(List d_))<|Sum (Int×Int×(List d_))<|Sum (Int×Int×(List d_))<|g_×Int×Int) (if (L==7) then bd (α:=Int×Int×(List d_)) (bd (idx G.rules H) λY=>bd3 (c_w (⟨x1.b,I,J⟩:u_) [(-1),0,5,256,70000]) λaM aN aO=>bd (psh Y.tags aM) λaP=>some (aN,aO,G.rules.set (H).toNat (⟨Y.name,Y.kind,Y.size,Y.little,Y.bytes,Y.names,aP,Y.kids⟩:d_))) (un3 λaQ aR aS=>some<|.inl (aQ,aR,aS)) else if (L==8) then some (.inr<|.inr<|.inr<|.inr<|.inr<|.inr<|.inr<|.inr ((⟨([]:List d_)⟩:g_),I,J)) else some (.inl (I,J,G.rules))) (el (un3 λaT aU aV=>some<|.inl (aT,aU,aV)) some)) (el (un3 λaW aX aY=>some<|.inl (aW,aX,aY)) some)) (el (un3 λaZ b0 b1=>some<|.inl (aZ,b0,b1)) some)) (el (un3 λb2 b3 b4=>some<|.inl (b2,b3,b4)) some)) (el (un3 λb5 b6 b7=>some<|.inl (b5,b6,b7)) some)) (el (un3 λb8 b9 ba=>some<|.inl (b8,b9,ba)) some)) (el (un3 λbb bc be=>some<|.inl (bb,bc,be)) some))<|el (un3 λbf bg bh=>some ((⟨bh⟩:g_),bf,bg)) some
end Go.Vw
namespace Go.Vw
def d_q (n:Nat)(x1:g_)(x2:Bt):Option (Int×Int) :=
 bd3 (f_D n x1 x2) λI G H=>some (G,H)
def f_i (n:Nat)(x1:g_)(x2:Bt)(x3:Int):Option UInt8 :=
 bd (G_ (σ:=Unit) (ρ:=UInt8) (λk10=>(λ(_:Unit)=>bd (app ([]:Bt) x2) λG=>bd (upd G x3<|mkB (k10:Int)) λH=>bd2 (d_q n x1 H) λI J=>bd (α:=Bool) (if (I != x3) then some true else some (J != 5)) (λL=>if L then some (.ret<|mkB (k10:Int)) else some (.next ())))) ((256:Int).toNat) 0 ()) (el (λ(_:Unit)=>bd (idx x2 x3) λO=>some O)<|λV=>some V)
def f_j (n:Nat)(x1:g_)(x2:Bt):Option (Bt×Bool) :=
 bd (app ([]:Bt) x2) λI=>bd (G_ (σ:=Bt) (ρ:=Bt×Bool) (λa0=>(λG=>bd2 (d_q n x1 G) λH J=>if (J != 5) then some (.brk G) else bd (f_i n x1 G H) λL=>bd (upd G H L) λO=>some<|.next O)) ((400:Int).toNat) 0 I) (el (λG=>bd (c_L n x1 G) λV=>if (!V) then bd (app ([]:Bt) x2) λW=>some (W,false) else some (G,true))<|λY=>some Y)
def f_k (n:Nat)(x1:g_)(x2:Bt):Option (Int×Int) :=
 bd (d_B x1) λI=>bd2 (c_M n x1 I x2 0) λG H=>bd (α:=Bool) (if (!decide (((⟨G,H⟩:P_):P_)=((⟨(x2.length:Int),0⟩:P_):P_))) then some (H==0) else some false) (λJ=>if J then some (G,7) else some (G,H))
def i_r (x1:Int)(x2:Int):Option Bool :=
 some (x1==x2)
def g_r (x1:List Int)(G:Int):Option Int :=
 bd (G_ (σ:=Unit) (ρ:=Int) (λk10=>(λ(_:Unit)=>bd (idx x1 (k10:Int)) λH=>bd (i_r H G) λI=>if I then some (.ret (k10:Int)) else some (.next ()))) x1.length 0 ()) (el (λ(_:Unit)=>some (-1))<|λJ=>some J)
structure g_s where
 impl_tracer_part:b_v->Str->Int->Int->Option (Str×Int)
 impl_tracer_kids:b_v->Str->Int->(List Int)->Int->Option (Int×Bool×Str×Int)
def e_t (n:Nat)(rec:g_s)(x1:b_v)(x2:Str)(x3:Int)(x4:Int):Option (Str×Int) :=
 bd (idx x1.d.rules x3) λG=>bd (α:=Bool) (if (G.kind==6) then some (G.kind==6) else some (G.kind==9)) (λV=>bd (α:=Sum (Str×Int)<|Str×Int) (if V then bd4 (rec.impl_tracer_kids (⟨(⟨x1.d.rules⟩:g_),x1.b,x2,x3⟩:b_v) x2 x3 G.kids x4) λaA aB W Y=>some (.inl (W,Y)) else bd (α:=Sum (Str×Int)<|Sum (Str×Int)<|Str×Int) (if (G.kind==8) then bd (α:=Bool) (if (decide<|x4<(x1.b.length:Int)) then bd (idx x1.b x4) λa0=>some ((byteI a0)==(byteI (1:UInt8))) else some false) (λa1=>bd (α:=Str×Int) (if a1 then bd4 (rec.impl_tracer_kids (⟨(⟨x1.d.rules⟩:g_),x1.b,x2,x3⟩:b_v) x2 x3 G.kids<|j_ x4 1) λaC aD a2 a3=>some (a2,a3) else some (x2,x3))<|un2 λa4 a5=>some<|.inl (a4,a5)) else bd (α:=Bool) (if (G.kind==5) then some (G.kind==5) else some (G.kind==7)) (λa6=>bd (α:=Sum (Str×Int)<|Sum (Str×Int)<|Sum (Str×Int)<|Str×Int) (if a6 then bd (idx G.kids 0) λa7=>bd2 (c_M n (⟨x1.d.rules⟩:g_) a7 x1.b x4) λH a8=>if (a8 != 0) then some (.inr<|.inr<|.inr (x2,x3)) else bd (α:=Int) (bd (slc x1.b x4 H) λa9=>bd (idx G.kids 0) λaa=>bd (idx x1.d.rules aa) λab=>bd (d_D a9 ab.little) λad=>some ad) (λI=>if (G.kind==7) then bd (g_r G.tags I) λJ=>bd (α:=Str×Int) (if (decide<|0<=J) then bd (slc G.kids (j_ J 1)<|j_ J 2) λae=>bd4 (rec.impl_tracer_kids (⟨(⟨x1.d.rules⟩:g_),x1.b,x2,x3⟩:b_v) x2 x3 ae H) λaE aF af ah=>some (af,ah) else some (x2,x3)) (un2 λai aj=>some<|.inr<|.inr<|.inr (ai,aj)) else bd (α:=Sum (Str×Int)<|Sum (Str×Int)<|Sum (Str×Int)<|Sum (Str×Int)<|Str×Int) (if (decide<|I<=40) then bd (mk0 0 I) λO=>bd (G_ (σ:=List Int) (ρ:=Str×Int) (λak=>(λL=>bd (idx G.kids 1) λal=>bd (upd L (ak:Int) al) λam=>some<|.next am)) O.length 0 O) (el (λL=>bd4 (rec.impl_tracer_kids (⟨(⟨x1.d.rules⟩:g_),x1.b,x2,x3⟩:b_v) x2 x3 L H) λaG aH an ao=>some<|.inl (an,ao))<|λap=>some<|.inr<|.inr<|.inr<|.inr ap) else some (.inl (x2,x3))) (el (un2 λaq ar=>some<|.inl (aq,ar)) some)) else some (.inl (x2,x3)))<|el (un2 λau av=>some<|.inl (au,av)) some)) (el (un2 λaw ax=>some<|.inl (aw,ax)) some))<|el (un2 λay az=>some (ay,az)) some)
def d_r (n:Nat)(rec:g_s)(x1:b_v)(x2:Str)(x3:Int)(x4:List Int)(x5:Int):Option (Int×Bool×Str×Int) :=
 bd (G_ (σ:=Int) (ρ:=Int×Bool×Str×Int) (λH=>(λG=>bd (idx x4 (H:Int)) λI=>bd2 (c_M n (⟨x1.d.rules⟩:g_) I x1.b G) λJ L=>if (L != 0) then bd (cat x2 (⟨[47]⟩:Str)) λO=>bd (e_g n (⟨x1.d.rules⟩:g_) x3 (H:Int)) λV=>bd (cat O V) λW=>bd2 (rec.impl_tracer_part x1 W I G) λY a0=>some (.ret (G,false,Y,a0)) else some (.next J))) x4.length 0 x5) (el (λG=>some (G,true,x1.path,x1.rule))<|λa1=>some a1)
def a_Z:Nat->g_s
 | 0=>⟨λ_ _ _ _=>none,λ_ _ _ _ _=>none⟩
 | n+1=>⟨e_t n<|a_Z n,d_r n<|a_Z n⟩
def i_s (n:Nat):=(a_Z n).impl_tracer_part
def f_l (n:Nat)(x1:g_)(x2:Bt):Option e_U :=
 bd2 (f_k n x1 x2) λH G=>bd (d_B x1) λI=>bd (α:=Str×Int) (if (G==8) then some ((⟨[]⟩:Str),(-1)) else bd (α:=Bool) (if (G==0) then some (G==0) else some (G==7)) (λJ=>bd (α:=Str×Int) (if J then some ((⟨[]⟩:Str),I) else bd (d_B x1) λL=>bd2 (i_s n (⟨(⟨x1.rules⟩:g_),x2,(⟨[]⟩:Str),0⟩:b_v) (⟨[]⟩:Str) L 0) λO V=>some (O,V))<|un2 λW Y=>some (W,Y)))<|un2 λa0 a1=>some (⟨G,H,a0,a1⟩:e_U)
def f_m (n:Nat)(x1:g_)(x2:Bt)(x3:Str):Option (Int×Bool) :=
 bd2 (h_7 n x3) λJ L=>bd (d_B x1) λO=>bd (G_ (σ:=Bool×Int×Int) (ρ:=Int×Bool) (λV=>un3 λH I G=>bd (idx J (V:Int)) λW=>bd (α:=Bool×Int×Int) (if H then bd3 (f_J n (⟨(⟨x1.rules⟩:g_),x2,I,G⟩:b_h) W) λY a0 a1=>some (Y,a0,a1) else some (false,I,G))<|un3 λa2 a3 a4=>some<|.next (a2,a3,a4)) J.length 0 (L,O,0))<|el (un3 λH I G=>some (G,H))<|λa5=>some a5
def f_n (n:Nat)(x1:g_)(x2:Bt):Option (Bt×Bool) :=
 bd (app ([]:Bt) x2) λI=>bd (G_ (σ:=Bt) (ρ:=Bt×Bool) (λa3=>(λG=>bd (f_l n x1 G) λH=>if (H.code != 5) then some (.brk G) else bd2 (f_m n x1 G H.path) λJ L=>bd (α:=Int) (if L then some J else some 0)<|λO=>bd (slc G O H.position) λV=>bd (e_d V) λW=>bd (upd G H.position<|mkB W) λY=>some<|.next Y)) ((400:Int).toNat) 0 I) (el (λG=>bd (f_L n x1 G) λa0=>if a0 then some (G,true) else bd (app ([]:Bt) x2) λa1=>some (a1,false))<|λa2=>some a2)
end Go.Vw
namespace Go.Vw
open Go.RowKit Dat
structure c_R where
 kind:Int
 at_:Int
 byte:Int
deriving DecidableEq,Inhabited
instance:Dat c_R:=Dat.via<|λr=>(r.kind,r.at_,r.byte)
instance:a_h c_R:=⟨λh=>a_h.flat (α:=Int×Int×Int) h,λh=>a_h.none (α:=Int×Int×Int) h⟩
end Go.Vw
namespace Go.Vw
def i_5 (x1:Int)(x2:Int):Option Int :=
 bd (b_1 x2 1 1000000000000) λG=>if (!G) then some 0 else bd (nz x2) λH=>bd (nz x2) λI=>some<|a_8 (j_ (a_8 x1 x2) x2) x2
def i_6 (x1:Int)(x2:Int):Option Int :=
 if (decide<|x1<x2) then some x2 else some x1
def g_b (x1:Int):Option Int :=
 bd (i_5 x1 2147483647) λG=>bd (i_6 1<|a_8 (a_f G 48271) 2147483647) λH=>some H
def e_q (x1:Int):Option (Int×Int) :=
 bd (g_b x1) λG=>some (G,G)
def f_6 (x1:Int)(x2:Int):Option c_R :=
 bd (b_1 x1 0 400) λJ=>if (!J) then some (⟨0,0,0⟩:c_R) else bd2 (e_q x2) λL O=>bd2 (e_q O) λG V=>bd2 (e_q V) λI a2=>bd (α:=Int) (if (x1==0) then some 2 else some (j_ 1<|a_8 L 3)) (λH=>bd (α:=Int×Int) (if (H==1) then bd (nz x1) λa3=>some (a_8 G x1,a_8 I 256) else bd (α:=Int×Int) (if (H==2) then bd (nz<|j_ x1 1) λa4=>some (a_8 G<|j_ x1 1,a_8 I 256) else bd (nz x1) λa5=>some (a_8 G x1,0)) (un2 λW Y=>some (W,Y)))<|un2 λa0 a1=>some (⟨H,a0,a1⟩:c_R))
def f_7 (x1:Bt)(x2:c_R):Option (Bt×Bool) :=
 bd (app ([]:Bt) x1) λG=>bd (α:=Bool) (bd (b_1 x2.byte 0 255) λH=>if (!H) then some true else bd (b_1 x2.at_ 0 (x1.length:Int)) λI=>some (!I)) (λJ=>if J then some (G,false) else bd (α:=Bool) (if (x2.kind==1) then some (decide<|x2.at_<(x1.length:Int)) else some false) (λL=>if L then bd2 (c_h x1 x2.at_ 1 [mkB x2.byte]) λO V=>some (O,V) else if (x2.kind==2) then bd2 (c_h x1 x2.at_ 0 [mkB x2.byte]) λW Y=>some (W,Y) else bd (α:=Bool) (if (x2.kind==3) then if (decide<|x2.at_<(x1.length:Int)) then some (x2.byte==0) else some false else some false) (λa0=>if a0 then bd2 (c_h x1 x2.at_ 1 ([]:Bt)) λa1 a2=>some (a1,a2) else some (G,false))))
def g_c (n:Nat)(x1:Bt)(x2:Int)(x3:Int):Option Bt :=
 bd (app ([]:Bt) x1) λI=>bd (a_a (σ:=Bt×Int) (ρ:=Bt) (un2 λH G=>bd (α:=Bool) (if (decide<|G<x3) then if (decide<|G<20) then some (decide<|(x1.length:Int)<=380) else some false else some false) (λJ=>if J then bd (f_6 (H.length:Int)<|j_ x2 G) λL=>bd2 (f_7 H L) λO W=>some (.next (O,j_ G 1)) else some (.brk (H,G)))) n (I,0))<|el (un2 λH G=>some H)<|λV=>some V
def g_d (n:Nat)(x1:Bt):Option (g_×Bt) :=
 bd (e_T n x1) λH=>bd3 (e_i n H) λO V W=>bd3 (a_5 (⟨H.b,V,W⟩:u_) 2) λY a0 a1=>bd (a_a (σ:=Int×Int×Int×(List d_)) (ρ:=g_×Bt) (un4 λI J L G=>if (decide<|0<I) then bd3 (d_c n (⟨H.b,J,L⟩:u_) (⟨G⟩:g_) 9) λa2 a3 a4=>bd (psh G a2) λa5=>some (.next (J_ I 1,a3,a4,a5)) else some (.brk (I,J,L,G))) n (j_ 1 Y,a0,a1,O.rules))<|el (un4 λI J L G=>bd3 (h_D n (⟨H.b,J,L⟩:u_) (⟨G⟩:g_) (J_ (G.length:Int) 1) 6) λa6 a7 a8=>bd (h_E n (⟨G⟩:g_) (J_ (G.length:Int) 1) a6) λa9=>bd3 (a_5 (⟨H.b,a7,a8⟩:u_) 999) λaa ab ad=>bd3 (a_5 (⟨H.b,ab,ad⟩:u_) 3) λae ai aj=>bd (g_c n a9 aa ae) λaf=>some ((⟨G⟩:g_),af))<|λah=>some ah
def g_e (n:Nat)(x1:u_):Option (g_×Bt×Int×Int) :=
 bd3 (e_i n x1) λG a1 a2=>bd3 (h_D n (⟨x1.b,a1,a2⟩:u_) G (J_ (G.rules.length:Int) 1) 8) λa3 O V=>bd (h_E n G (J_ (G.rules.length:Int) 1) a3) λH=>bd (α:=Bool×Int×Int) (if (decide<|0<(H.length:Int)) then bd3 (d_a (⟨x1.b,O,V⟩:u_) 3) λa4 a5 a6=>some (a4,a5,a6) else some (false,O,V)) (un3 λa7 W Y=>bd (α:=Bt×Int×Int) (if a7 then bd3 (f_U (⟨x1.b,W,Y⟩:u_) H) λa8 a9 aa=>some (a8,a9,aa) else some (H,W,Y)) (un3 λa0 ab ad=>bd3 (a_5 (⟨x1.b,ab,ad⟩:u_) 24) λI J L=>bd (α:=Bt×Int×Int) (if (I==0) then bd3 (a_5 (⟨x1.b,J,L⟩:u_) 2) λae af ah=>bd (mk0 (0:UInt8)<|j_ 400 ae) λai=>some (ai,af,ah) else bd (α:=Bt×Int×Int) (if (I==1) then bd3 (a_5 (⟨x1.b,J,L⟩:u_) 8) λaj ak al=>bd3 (d_b (⟨x1.b,ak,al⟩:u_) aj) λam an ao=>some (am,an,ao) else bd (α:=Bt) (if (I==2) then bd (psh a0 (92:UInt8)) λap=>some ap else some a0) (λaq=>some (aq,J,L))) (un3 λar au av=>some (ar,au,av)))<|un3 λaw ax ay=>some (G,aw,ax,ay)))
def i_7 (n:Nat)(x1:Bt):Option (g_×Bt) :=
 bd (e_T n x1) λG=>bd4 (g_e n G) λJ L O V=>bd3 (d_a (⟨G.b,O,V⟩:u_) 12) λW H I=>bd (α:=Int×Int×(List d_)) (if W then bd3 (f_V n (⟨G.b,H,I⟩:u_)) λY a0 a1=>some (a0,a1,Y.rules) else some (H,I,J.rules))<|un3 λa3 a4 a2=>some ((⟨a2⟩:g_),L)
def f_8 (n:Nat)(x1:Bt):Option (g_×Bt) :=
 bd2 (i_7 n x1) λG H=>some (G,H)
def g_f (n:Nat)(x1:g_)(x2:Bt):Option (Bt×Bool) :=
 bd2 (f_k n x1 x2) λH G=>if (G==0) then bd (app ([]:Bt) x2) λI=>some (I,true) else if (G==7) then bd (slc x2 0 H) λJ=>bd (app ([]:Bt) J) λL=>some (L,true) else bd (app ([]:Bt) x2) λO=>some (O,false)
def g_g (n:Nat)(x1:Bt):Option Bool :=
 bd (h_B x1) λY=>if Y then some true else bd2 (g_d n x1) λG H=>bd2 (f_n n G H) λI J=>bd2 (f_j n G H) λa0 a1=>bd (α:=Bool) (if (J != a1) then some true else bd (e_k I a0) λa2=>bd (α:=Bool) (if (!a2) then some true else if J then bd (c_L n G I) λa3=>some (!a3) else some false) λa4=>if a4 then some true else if J then some ((I.length:Int) != (H.length:Int)) else some false) (λa5=>if a5 then some false else bd2 (f_8 n x1) λL O=>bd2 (g_f n L O) λV W=>bd (α:=Bool) (bd (c_L n L V) λa6=>if (W==a6) then some true else if (!W) then bd (e_k V O) λa7=>some a7 else some false)<|λa8=>some a8)
end Go.Vw
namespace Go.Vw
open Go.RowKit Dat
theorem n_h {P:Program}{o:Oper}{a:Act}{w:World}{K K' K1 K2:Act->World->Prop}{Q:Exit->Act->World->Prop}(h:∀a w,K a w->K' a w)(hh:o.wp P a w K (Exit.then K1 Q)):o.wp P a w K' (Exit.then K2 Q):=by
 unfold Oper.wp at *
 generalize (execOp a.eval o).run P w=r at *
 cases r with
 | ok n w' =>
  cases n <;> simp only [Oper.upon] at hh ⊢ <;>
   first
    | exact h _ _ hh
    | exact Calls.mono hh (λe w'' he=>by cases e <;> first | exact h _ _ he | exact he)
    | exact Rows.mono hh<|λ_ _ he=>h _ _ he
 | halt x w'=>cases x <;> simp only [Oper.upon] at hh ⊢ <;> exact hh
theorem h_z {P:Program}{ops:Array Oper}{K K1:Act->World->Prop}{Q:Exit->Act->World->Prop}{l2:List Oper}(hk:∀a w,K1 a w->wpList P ops (Exit.then K Q) l2 a w):∀(l1:List Oper)(a:Act)(w:World),wpList P ops (Exit.then K1 Q) l1 a w->wpList P ops (Exit.then K Q) (l1++l2) a w
 | [],a,w,h=>hk a w h
 | o::l1,a,w,h=>by
  rw [List.cons_append]
  unfold wpList at h ⊢
  split at h
  .rename_i hw
   rw [if_pos hw]
   rcases h with h | ⟨h1,h2⟩
   .exact .inl<|n_h (h_z hk l1) h
   .exact .inr ⟨h1,h2⟩
  .rename_i hw
   rw [if_neg hw]
   exact h_z hk l1 _ _ h
section
variable {P:Program}{N:Nat}{ops:Array Oper}{K:Act->World->Prop}{Q:Exit->Act->World->Prop}{e:Env}{w:World}{l:List Oper}
theorem k_O (k:Nat)(l:List Oper):l.take k++l.drop k=l:=List.take_append_drop k l
theorem d_8 (d:Nat)(u:Bool)(k:Nat)(h1:WL P N ops (λa w'=>w'=w/\Sat N ((d,vB u)::e) a) Q (l.take k) e w)(h2:WL P N ops K Q (l.drop k) ((d,vB u)::e) w):WL P N ops K Q l e w:=λa ha=>by
 rw [← k_O k l]
 exact h_z (λa w' ⟨hw,hs⟩=>by subst hw;exact h2 a hs) _ a w<|h1 a ha
theorem WLcutB (d:Nat)(u:Bool)(k:Nat)(h1:WL P N ops (λa w'=>Below w.heap.size w w'/\Sat N ((d,vB u)::e) a) Q (l.take k) e w)(h2:∀w',Below w.heap.size w w'->WL P N ops K Q (l.drop k) ((d,vB u)::e) w'):WL P N ops K Q l e w:=λa ha=>by
 rw [← k_O k l]
 exact h_z (λa w' ⟨hw,hs⟩=>h2 w' hw a hs) _ a w<|h1 a ha
variable {d:Nat}{u c:Bool}
def h_A (n:Nat)(e:Env):Bool:=(e.take n).all λp=>(e.drop n).all λq=>!Nat.beq p.1 q.1
theorem k_P:∀{e:Env}{t:Nat},(∀q∈e,Nat.beq t q.1=false)->y_ e t=none
 | [],_,_=>rfl
 | (k,v)::e,t,h=>by
  have h1:=h (k,v) List.mem_cons_self;have h2:Nat.beq k t=false:=by rw [← Bool.not_eq_true,Nat.beq_eq] at *;exact λh=>h1 h.symm
  rw [y_,h2]
  exact k_P λq hq=>h q<|List.mem_cons_of_mem _ hq
theorem k_Q:∀{G H:Env}{t:Nat},(∀p∈G,Nat.beq p.1 t=false)->y_ (G++H) t=y_ H t
 | [],_,_,_=>rfl
 | (k,v)::G,H,t,h=>by
  rw [List.cons_append,y_,h (k,v) List.mem_cons_self]
  exact k_Q λp hp=>h p<|List.mem_cons_of_mem _ hp
theorem n_i {n:Nat}{e:Env}(h:h_A n e=true){t:Nat}{v:Value}(hl:y_ (e.drop n) t=some v):y_ e t=some v:=by
 have:y_ (e.take n++e.drop n) t=y_ (e.drop n) t:=by
  refine k_Q λp hp=>?_
  cases hb:Nat.beq p.1 t with
  | false=>rfl
  | true =>
   exfalso
   have hpt:p.1=t:=Nat.eq_of_beq_eq_true hb;have h1:=List.all_eq_true.1 h p hp
   rw [List.all_eq_true] at h1
   have:=k_P (e:=e.drop n) (t:=t) λq hq=>by
    have:=h1 q hq
    rw [Bool.not_eq_true'] at this
    rw [← hpt];exact this
   rw [this] at hl;cases hl
 rw [List.take_append_drop] at this
 rw [this];exact hl
theorem k_R (n:Nat){e':Env}{a:Act}(hu:c=u)(G:y_ e' d=some (vB c))(hf:h_A n e'=true)(he:e'.drop n=e)(ha:Sat N e' a):Sat N ((d,vB u)::e) a:=by
 subst hu;subst he;refine ⟨ha.defers,ha.size,λt v ht=>?_⟩
 simp only [y_] at ht
 by_cases hk:d=t
 .subst hk;have hb:Nat.beq d d=true:=by simp
  rw [hb] at ht
  simp only [cond_true,Option.some.injEq] at ht
  subst ht;exact ha.at_ d _ G
 .have hb:Nat.beq d t=false:=by rw [← Bool.not_eq_true,Nat.beq_eq];exact hk
  rw [hb] at ht
  simp only [cond_false] at ht
  exact ha.at_ t v<|n_i hf ht
theorem WLq (n:Nat){e':Env}(hu:some c=some u)(G:y_ e' d=some (vB c))(hf:h_A n e'=true)(he:e'.drop n=e):WL P N ops (λa w'=>w'=w/\Sat N ((d,vB u)::e) a) Q [] e' w :=
 b_5 λ_ ha=>⟨rfl,k_R n (Option.some.inj hu) G hf he ha⟩
theorem WLqB (n:Nat){e':Env}{w':World}(hu:some c=some u)(G:y_ e' d=some (vB c))(hf:h_A n e'=true)(he:e'.drop n=e)(hb:Below w.heap.size w w'):WL P N ops (λa w'=>Below w.heap.size w w'/\Sat N ((d,vB u)::e) a) Q [] e' w' :=
 b_5 λ_ ha=>⟨hb,k_R n (Option.some.inj hu) G hf he ha⟩
end
end Go.Vw
universe u
namespace Go.Vw
open Go.RowKit Dat
section
variable {P:Program}{N:Nat}{ops:Array Oper}{K:Act->World->Prop}{Q:Exit->Act->World->Prop}{e:Env}{w:World}{rest:List Oper}
variable {d:Nat}{op:Op}{ty:TypeId}{pos:String}{aft:Array Edge}{x:Operand}
theorem Wn {y:Code}{Q':Exit->Act->World->Prop}(h:WC P N y K Q e w):WL P N ops (KC P y K Q) Q' [] e w:=b_5<|WC.of_KC h
theorem Ws {id:Nat}{l:List Oper}{y:Code}(h:WL P N l.toArray (KC P y K Q) Q l e w):WC P N (.seq (.region id l.toArray false) y) K Q e w:=b_c<|b_t h
theorem Wk {y:Code}{Q':Exit->Act->World->Prop}(h:WC P N y K Q e w):WC P N .skip (KC P y K Q) Q' e w:=a_c<|WC.of_KC h
theorem d_6 {b:Bool}{o:Option Value}{v:Value}(h:(bif b then o else none)=some v):b=true/\o=some v:=by
 cases b
 .cases h
 .exact ⟨rfl,h⟩
theorem Rm {v:Value}(h:(bif Nat.blt d N then ev e x else none)=some v)(k:WL P N ops K Q rest ((d,v)::e) w):WL P N ops K Q (⟨some d,.move x,ty,pos,aft,none⟩::rest) e w:=R (d_6 h).1 (b_U (d_6 h).2) k
theorem Ra {v:Value}(h:(bif Nat.blt d N then ev e x else none)=some v)(k:WL P N ops K Q rest ((d,v)::e) w):WL P N ops K Q (⟨some d,.assign x,ty,pos,aft,none⟩::rest) e w:=R (d_6 h).1 (d_s (d_6 h).2) k
section
variable {j:Nat}{want b:Bool}
theorem bind_some {o:Option Nat}{v:Value}(h:o.bind (y_ e)=some v):∃gd,o=some gd/\y_ e gd=some v:=by
 cases o with
 | none=>cases h
 | some g=>exact ⟨g,rfl,h⟩
theorem Rh {v:Value}(h:(bif Nat.blt d N then ((ops[j]?).bind (·.dst)).bind (y_ e) else none)=some (.bool b))(hw:b=want)(hr:Rd noX P N ⟨some d,op,ty,pos,aft,some (j,want)⟩ e w v)(k:WL P N ops K Q rest ((d,v)::e) w):WL P N ops K Q (⟨some d,op,ty,pos,aft,some (j,want)⟩::rest) e w:=by
 obtain ⟨gd,h1,h2⟩:=bind_some (d_6 h).2;exact Rg h1 h2 hw (d_6 h).1 hr k
theorem Nh (h:(bif Nat.blt d N then ((ops[j]?).bind (·.dst)).bind (y_ e) else none)=some (.bool b))(hw:b = !want)(k:WL P N ops K Q rest ((d,undef)::e) w):WL P N ops K Q (⟨some d,op,ty,pos,aft,some (j,want)⟩::rest) e w:=by
 obtain ⟨gd,h1,h2⟩:=bind_some (d_6 h).2;exact Ng h1 h2 hw (d_6 h).1 k
theorem Nv (h:(bif Nat.blt d N then ((ops[j]?).bind (·.dst)).bind (y_ e) else none)=some undef)(k:WL P N ops K Q rest ((d,undef)::e) w):WL P N ops K Q (⟨some d,op,ty,pos,aft,some (j,want)⟩::rest) e w:=by
 obtain ⟨gd,h1,h2⟩:=bind_some (d_6 h).2;exact Nu h1 h2 (d_6 h).1 k
end
end
theorem goF {P:Program}{f:FuncId}{G:Func}{c:Code}{N:Nat}{args:List Value}{w:World}{R:Value->World->Prop}(hf:P.funcs[f]? = some G)(hb:G.body=some c)(hN:G.ntmps=N)(hle:args.length<=N)(h:∀fn:Func,fn.results=G.results->WC P N c (b_Z P fn R) (QR P fn R) (d_P 0 args) w):q_ P f args w R:=j_o hf hb hN hle<|h G rfl
theorem goG {P:Program}{f:FuncId}{G:Func}{c:Code}{N:Nat}{args:List Value}{w:World}{R:Value->World->Prop}(hf:P.funcs[f]? = some G)(hb:G.body=some c)(hN:G.ntmps=N)(hle:Nat.ble args.length N=true)(h:∀fn:Func,fn.results=G.results->WC P N c (b_Z P fn R) (QR P fn R) (d_P 0 args) w):q_ P f args w R:=goF hf hb hN (Nat.le_of_ble_eq_true hle) h
section
variable {P:Program}{N:Nat}{e:Env}{w:World}{ty:TypeId}{pos:String}{aft:Array Edge}{gd:Option (Nat×Bool)}{x y:Operand}
theorem fs0 {T n g o:Nat}{v:Value}{cur cur':List Value}(hs:∀w,(sizeOf T).run P w = .ok n w)(hp:ev e x=some (.pointer<|some ⟨g,o,none⟩))(hv:ev e y=some v)(hB:Blk w g cur)(hn:v.cells.size=n)
  (ho:Nat.ble (o+n) cur.length=true) (h1:v.cells.toList.all Value.oneCell'=true) (hcur:cur.take o++v.cells.toList++cur.drop (o+v.cells.toList.length)=cur') :
  Ef P N ⟨none,.store T x y,ty,pos,aft,gd⟩ e w (λ_ w'=>Blk w' g cur'/\Chg (· = g) w w'):=b_w hs hp hv hB hn (Nat.le_of_ble_eq_true ho) (b_R h1) hcur
end
abbrev rQ {ρ:Type}(P:Program)(fn:Func)(Q:ρ->Value->World->Prop)(r:ρ)(ex:Exit)(a:Act)(w:World):Prop:=ex = .ret/\b_Z P fn (Q r) a w
abbrev _root_.Go.World.z (w:World):Nat:=w.heap.size
abbrev sl (a:Option Addr)(n c:Nat):Value:=.slice a n c
abbrev sN:Value:=sl none 0 0
abbrev pt (g:Nat):Value:=.pointer<|some ⟨g,0,none⟩
abbrev Bw (a b:World):Prop:=Below a.heap.size a b
abbrev vR (x:d_)(a1:Option Addr)(G H:Nat)(a2:Option Addr)(I J:Nat)(L:Option Addr)(O V:Nat)(W:Option Addr)(Y c4:Nat):List Value:=[x.name.v,vI x.kind,vI x.size,vB x.little,.slice a1 G H,.slice a2 I J,.slice L O V,.slice W Y c4]
theorem z {α:Sort u}{a:α}:a=a:=rfl
theorem Sat.k {N:Nat}{e e':Env}{a:Act}(h:Sat N e a)(hs:sub e e'):Sat N e' a:=h.weaken hs
theorem fid {a:Prop}(h:a):a:=h
theorem lt_ {a b c:Nat}(h:a<=b)(h':b<=c):a<=c:=Nat.le_trans h h'
theorem lr {a:Nat}:a<=a:=Nat.le_refl a
theorem lb {a b:Nat}(h:Nat.ble a b=true):a<=b:=Nat.le_of_ble_eq_true h
theorem ii {x:Int}(h:(decide (-9223372036854775808<=x) && decide (x<=9223372036854775807))=true):inI x:=inI_of x h
section
variable {S T A M:List Nat}{m n g k:Nat}
theorem j_1 (h:m<=n):∀k∈[n],m<=k:=a_ h
theorem mno (h:∀ k∈T,k<m)(h':m<=n):∀k∈[n],k∉T:=a_<|λht=>absurd (h n ht)<|Nat.not_lt.2 h'
theorem mnr (h:∀ k∈T,k<m):∀k∈[m],k∉T:=mno h lr
theorem mm1 (h:g<m)(h':m<=n):∀k∈[n],k∉[g]:=mno (a_ h) h'
theorem mmr (h:g<m):∀k∈[m],k∉[g]:=mno (a_ h) lr
theorem mor (h:m<=n):∀k∈[n],k∈M∨m<=k:=a_<|.inr h
theorem p_ (hs:∀k∈S,n<=k)(h:m<=n):∀k∈S,m<=k:=or0 hs<|b_6 h
theorem l_ (hs:∀k∈S,n<=k)(h:g<m)(h':m<=n):∀k∈S,k∉[g]:=or0 hs<|k_ (a_ h) h'
theorem b_F (hs:∀k∈S,n<=k)(h:∀ k∈T,k<m)(h':m<=n):∀k∈S,k∉T:=or0 hs<|k_ h h'
theorem a_0 (hs:∀k∈S,k∈A∨n<=k)(ha:∀k∈A,m<=k)(h:m<=n):∀k∈S,m<=k:=or1 hs ha<|b_6 h
theorem o1no (hs:∀k∈S,k∈A∨n<=k)(ha:∀k∈A,k∉T)(h:∀ k∈T,k<m)(h':m<=n):∀k∈S,k∉T:=or1 hs ha<|k_ h h'
theorem djs (h:∀k∈S,k∉[g]):g∉S:=λhg=>h g hg<|List.mem_singleton.2 rfl
theorem atp {p:Nat->Prop}(h:∀k∈[g],p k):p g:=h g<|List.mem_singleton.2 rfl
theorem nd0:([]++[]:List Nat).Nodup:=g_1 z_ z_ d_d
theorem al0 {p:Nat->Prop}:∀k∈([]++[]:List Nat),p k:=g_0 d_d d_d
end
section
variable {e e':Env}{v1 v2 v3 v4 v5 v6 v7 v8 v9:Value}{k1 k2 k3 k4 k5 k6 k7 k8 k9:Nat}
theorem s1 (h1:y_ e k1=some v1):sub e [(k1,v1)]:=⟨h1,trivial⟩
theorem s2 (h1:y_ e k1=some v1)(h2:y_ e k2=some v2):sub e [(k1,v1),(k2,v2)]:=⟨h1,s1 h2⟩
theorem s3 (h1:y_ e k1=some v1)(h2:y_ e k2=some v2)(h3:y_ e k3=some v3):sub e [(k1,v1),(k2,v2),(k3,v3)]:=⟨h1,s2 h2 h3⟩
theorem s4 (h1:y_ e k1=some v1)(h2:y_ e k2=some v2)(h3:y_ e k3=some v3)(h4:y_ e k4=some v4):sub e [(k1,v1),(k2,v2),(k3,v3),(k4,v4)]:=⟨h1,s3 h2 h3 h4⟩
theorem s5 (h1:y_ e k1=some v1)(h2:y_ e k2=some v2)(h3:y_ e k3=some v3)(h4:y_ e k4=some v4)(h5:y_ e k5=some v5):sub e [(k1,v1),(k2,v2),(k3,v3),(k4,v4),(k5,v5)]:=⟨h1,s4 h2 h3 h4 h5⟩
theorem s6 (h1:y_ e k1=some v1)(h2:y_ e k2=some v2)(h3:y_ e k3=some v3)(h4:y_ e k4=some v4)(h5:y_ e k5=some v5)(h6:y_ e k6=some v6):sub e [(k1,v1),(k2,v2),(k3,v3),(k4,v4),(k5,v5),(k6,v6)]:=⟨h1,s5 h2 h3 h4 h5 h6⟩
theorem s7 (h1:y_ e k1=some v1)(h2:y_ e k2=some v2)(h3:y_ e k3=some v3)(h4:y_ e k4=some v4)(h5:y_ e k5=some v5)(h6:y_ e k6=some v6)(G:y_ e k7=some v7):sub e [(k1,v1),(k2,v2),(k3,v3),(k4,v4),(k5,v5),(k6,v6),(k7,v7)]:=⟨h1,s6 h2 h3 h4 h5 h6 G⟩
theorem s8 (h1:y_ e k1=some v1)(h2:y_ e k2=some v2)(h3:y_ e k3=some v3)(h4:y_ e k4=some v4)(h5:y_ e k5=some v5)(h6:y_ e k6=some v6)(G:y_ e k7=some v7)(H:y_ e k8=some v8):sub e [(k1,v1),(k2,v2),(k3,v3),(k4,v4),(k5,v5),(k6,v6),(k7,v7),(k8,v8)]:=⟨h1,s7 h2 h3 h4 h5 h6 G H⟩
theorem s9 (h1:y_ e k1=some v1)(h2:y_ e k2=some v2)(h3:y_ e k3=some v3)(h4:y_ e k4=some v4)(h5:y_ e k5=some v5)(h6:y_ e k6=some v6)(G:y_ e k7=some v7)(H:y_ e k8=some v8)(I:y_ e k9=some v9):sub e [(k1,v1),(k2,v2),(k3,v3),(k4,v4),(k5,v5),(k6,v6),(k7,v7),(k8,v8),(k9,v9)]:=⟨h1,s8 h2 h3 h4 h5 h6 G H I⟩
end
theorem onL {α:Type}[Dat α]{w:World}:b_ w [] (.slice none 0 0) ([]:List α):=n_C w
theorem _root_.Go.RowKit.Below.s {b:Nat}{w w':World}(h:Below b w w'):w.heap.size<=w'.heap.size:=h.size
theorem Chg.s {X:Nat->Prop}{w w':World}(h:Chg X w w'):w.heap.size<=w'.heap.size:=h.size
abbrev Chg.e:=@Chg.ext
abbrev repS.e:=@repS.ext
abbrev repS.c:=@repS.chg
abbrev b_.e:=@b_.ext
abbrev b_.c:=@b_.chg
abbrev a_1.e:=@a_1.ext
abbrev a_1.c:=@a_1.chg
abbrev a_U.e:=@a_U.ext
abbrev a_U.c:=@a_U.chg
abbrev b_o.e:=@b_o.ext
abbrev b_o.c:=@b_o.chg
abbrev GlW.e:=@GlW.ext
abbrev GlW.c:=@GlW.chg
abbrev Blk.e:=@Blk.ext
abbrev Blk.c:=@Blk.chg
abbrev b_J.e:=@b_J.ext
abbrev b_J.c:=@b_J.chg
section
variable {P:Program}{N:Nat}{ops:Array Oper}{K:Act->World->Prop}{Q:Exit->Act->World->Prop}{e:Env}{w:World}{rest:List Oper}{X:Nat->Prop}{T:Nat}{p:a_S}
variable {d d':Nat}{ty ty':TypeId}{pos pos':String}{aft aft':Array Edge}{x x':Operand}{v v':Value}
theorem Rw {c:Code}{Q':Exit->Act->World->Prop}(h:(bif Nat.blt d N then ev e x else none)=some v)(k:WC P N c K Q ((d,v)::e) w):WL P N ops (KC P c K Q) Q' [⟨some d,.assign x,ty,pos,aft,none⟩] e w:=Ra h<|Wn k
theorem Wm {id:Nat}{l:List Oper}{c:Code}(h:(bif Nat.blt d N then ev e x else none)=some v)(k:WL P N (⟨some d,.move x,ty,pos,aft,none⟩::l).toArray (KC P c K Q) Q l ((d,v)::e) w):WC P N (.seq (.region id (⟨some d,.move x,ty,pos,aft,none⟩::l).toArray false) c) K Q e w:=Ws<|Rm h k
theorem RM (h:(bif Nat.blt d N then ev e x else none)=some v)(h':(bif Nat.blt d' N then ev ((d,v)::e) x' else none)=some v')(k:WL P N ops K Q rest ((d',v')::(d,v)::e) w):WL P N ops K Q (⟨some d,.move x,ty,pos,aft,none⟩::⟨some d',.move x',ty',pos',aft',none⟩::rest) e w:=Rm h<|Rm h' k
theorem RA (h:(bif Nat.blt d N then ev e x else none)=some v)(h':(bif Nat.blt d' N then ev ((d,v)::e) x' else none)=some v')(k:WL P N ops K Q rest ((d',v')::(d,v)::e) w):WL P N ops K Q (⟨some d,.assign x,ty,pos,aft,none⟩::⟨some d',.assign x',ty',pos',aft',none⟩::rest) e w:=Ra h<|Ra h' k
theorem dM {i:Nat}(ho:ops[i]? = some ⟨some d,.move x,ty,pos,aft,none⟩)(hf:Nat.blt d N=true)(h:ev e x=some v)(k:PR X P N ops T K p ((d,v)::e) w):PR X P N ops T K (.rd i p) e w:=dR ho hf (b_U h) k
theorem dQ {i:Nat}(ho:ops[i]? = some ⟨some d,.assign x,ty,pos,aft,none⟩)(hf:Nat.blt d N=true)(h:ev e x=some v)(k:PR X P N ops T K p ((d,v)::e) w):PR X P N ops T K (.rd i p) e w:=dR ho hf (d_s h) k
theorem Wx {y y':Code}{b:Bool}{Q':Exit->Act->World->Prop}(hc:ev e x=some (.bool b))(ht:b=true->WC P N y K Q e w)(hf:b=false->WC P N y' K Q e w):WL P N ops (KC P (.cond x y y') K Q) Q' [] e w:=Wn<|c_N hc ht hf
section
variable {t u i:Nat}{k:IntKind}{a b:Int}
theorem Rl (hf:Nat.blt d N=true)(h1:ev e x=some (.int k a))(h2:ev e x'=some (.int k b))(h:WL P N ops K Q rest ((d,vB<|decide<|a<b)::e) w):WL P N ops K Q (⟨some d,.binOp .lss t x x' u,ty,pos,aft,none⟩::rest) e w:=R hf (f_q h1 h2) h
theorem Rq (hf:Nat.blt d N=true)(h1:ev e x=some (.int k a))(h2:ev e x'=some (.int k b))(h:WL P N ops K Q rest ((d,vB<|a==b)::e) w):WL P N ops K Q (⟨some d,.binOp .eql t x x' u,ty,pos,aft,none⟩::rest) e w:=R hf (g_w h1 h2) h
theorem Rf {g o j:Nat}(hf:Nat.blt d N=true)(h1:Fld P t i j)(h2:ev e x=some (.pointer<|some ⟨g,o,none⟩))(h:WL P N ops K Q rest ((d,.pointer<|some ⟨g,o+j,none⟩)::e) w):WL P N ops K Q (⟨some d,.fieldAddr t x i,ty,pos,aft,none⟩::rest) e w:=R hf (g_t h1 h2) h
theorem Re {vs:Array Value}(hf:Nat.blt d N=true)(h1:ev e x=some (.tuple vs))(h2:vs[i]? = some v)(h:WL P N ops K Q rest ((d,v)::e) w):WL P N ops K Q (⟨some d,.extract x i,ty,pos,aft,none⟩::rest) e w:=R hf (g_u h1 h2) h
end
theorem l0 {t g o:Nat}{dst:Option Tmp}{gd:Option (Nat×Bool)}(hT:∀w,(isAgg t).run P w = .ok false w)(h:ev e x=some (.pointer<|some ⟨g,o,none⟩))(hc:w.cell? ⟨g,o,none⟩=some v):Rd noX P N ⟨dst,.load t x,ty,pos,aft,gd⟩ e w v:=c_r hT h (λh=>h) hc
def plA:Nat->Nat->List Nat->a_S
 | _,0,_=>.done
 | i,n+1,l=>bif l.elem i then .ef i (plA (i+1) n l) else .rd i (plA (i+1) n l)
abbrev pl_ (n:Nat)(l:List Nat):a_S:=plA 0 n l
end
end Go.Vw
namespace Go.Vw
open Go.RowKit Dat Go.ChangeShapes Go.WideShapes Go.ChangeAt
structure IsT (P:Program)(t:TypeId)(α:Type)[Dat α](L:α->Prop):Prop where
 rd:∀{H:Type}(enc:TypeId×Value->H)(W:World)(fuel:Nat)(cs:List Value)(x:DataW H×List MemPlace),DataW.trod enc P W 0 (λ_=>true) true fuel t cs=some x->(x.1.weights P t).all (· <= reachBytes)=true->∃v:α,rep W W.heap.size cs v/\L v
section
variable {P:Program}{t:TypeId}
theorem o_2 (ht:P.underlying t=some (.int .u8)):IsT P t UInt8 (λ_=>True):=⟨λenc W fuel cs x h _=>by
 obtain ⟨n,rfl,_,hw⟩:=DataW.trod_int ht h;have hb:=bounds_u8 hw
 have e:n=byteI (UInt8.ofNat n.toNat):=by
  unfold byteI
  rw [UInt8.toNat_ofNat']
  omega
 refine ⟨UInt8.ofNat n.toNat,⟨_,rfl,?_⟩,trivial⟩
 show Value.int .u8 n=vU (byteI<|UInt8.ofNat n.toNat)
 rw [← e]⟩
theorem l_2 {H:Type}{e:TypeId}:∀{l:List (DataW H)}{d:DataW H},(DataW.weightsAll P e l).all (· <= reachBytes)=true->d∈l->(d.weights P e).all (· <= reachBytes)=true
 | [],_,_,h=>by cases h
 | y::l,d,hw,h=>by
  unfold DataW.weightsAll at hw
  rw [List.all_append,Bool.and_eq_true] at hw
  rcases List.mem_cons.1 h with rfl | h
  .exact hw.1
  .exact l_2 hw.2 h
theorem l_3 {H:Type}:∀{ts:List TypeId}{l:List (DataW H)}{i:Nat}{t:TypeId}{d:DataW H},(DataW.weightsEach P ts l).all (· <= reachBytes)=true->ts[i]? = some t->l[i]? = some d->(d.weights P t).all (· <= reachBytes)=true
 | [],_,_,_,_,_,h,_=>by simp at h
 | _::_,[],_,_,_,_,_,h=>by simp at h
 | t::ts,y::l,i,t',d,hw,h1,h2=>by
  unfold DataW.weightsEach at hw
  rw [List.all_append,Bool.and_eq_true] at hw
  cases i with
  | zero=>simp at h1 h2;subst h1 h2;exact hw.1
  | succ i=>simp at h1 h2;exact l_3 hw.2 h1 h2
theorem cells?_spec {w:World}{a:Addr}{n:Nat}{cs:List Value}(h:w.cells? 0 a n=some cs):cs.length=n/\∀j v,cs[j]? = some v->w.cell? (a.add j)=some v:=by
 unfold World.cells? at h
 rw [if_pos (Nat.zero_le _)] at h
 refine ⟨by simpa using mapM_some_length h,λj v hv=>?_⟩
 have hj:j<n:=by
  have h1:=(List.getElem?_eq_some_iff.1 hv).1;have h2:=mapM_some_length h
  simp at h2
  omega
 have:=mapM_some_get h j j (by rw [List.getElem?_range hj])
 rw [this];exact hv
theorem o_3 {w:World}{a:Addr}{v:Value}(h:w.cell? a=some v):a.spot=none:=by
 unfold World.cell? at h
 split at h
 .cases hs:a.spot with
  | none=>rfl
  | some x=>rw [hs] at h;simp at h
 .cases h
theorem l_4 {α:Type}(Q:Nat->α->Prop):∀(len:Nat),(∀i,i<len->∃v,Q i v)->∃l:List α,l.length=len/\∀(i:Nat)(x:α),l[i]? = some x->Q i x
 | 0,_=>⟨[],rfl,λi x h=>by simp at h⟩
 | n+1,h=>by
  obtain ⟨l,hl,hq⟩:=l_4 Q n<|λi hi=>h i (by omega);obtain ⟨v,hv⟩:=h n (by omega);refine ⟨l++[v],by simp [hl],λi x hx=>?_⟩
  by_cases hi:i<l.length
  .rw [List.getElem?_append_left hi] at hx;exact hq i x hx
  .rw [List.getElem?_append_right (by omega)] at hx
   have h1:=(List.getElem?_eq_some_iff.1 hx).1
   simp only [List.length_cons,List.length_nil] at h1
   have h2:i=n:=by omega
   subst h2
   rw [show i - l.length=0 by omega] at hx
   simp at hx
   exact hx ▸ hv
theorem o_4 {α:Type}[Dat α]{L:α->Prop}{e:TypeId}(ht:P.underlying t=some (.slice e))(he:IsT P e α L)(hc:P.cellsOf e=sz α)(hb:1<=P.bytesOf e):IsT P t (List α) (λl=>l.length<=LEN/\∀x∈l,L x):=⟨λenc W fuel cs x h hw=>by
 have hr:reachBytes=140737488351232:=rfl;have hL:LEN=140737488355328:=rfl
 rcases DataW.trod_slice ht h with ⟨rfl,rfl⟩ | ⟨a,len,cap,elems,rest,n,_,rfl,rfl,_,hlc,_,hlen,hel,hsp,_⟩
 .exact ⟨[],⟨_,rfl,none,0,rfl,Nat.le_refl _,Nat.zero_le _,λ_=>rfl,λp hp=>by cases hp⟩,by simp,λx hx=>by cases hx⟩
 .obtain ⟨hrl,_⟩:=hsp rfl
  have hw':(elems.length+rest.length) * P.bytesOf e<=reachBytes/\(DataW.weightsAll P e<|elems.map (·.1)).all (· <= reachBytes)=true:=by
   unfold DataW.weights at hw
   rw [ht] at hw
   simp only [List.all_cons,List.all_append,Bool.and_eq_true,decide_eq_true_eq,List.length_map] at hw
   exact ⟨hw.1,hw.2.1⟩
  have hcap:cap<=LEN:=by
   have h1:elems.length+rest.length<=(elems.length+rest.length) * P.bytesOf e:=Nat.le_mul_of_pos_right _ hb
   omega
  have hone:∀i:Nat,i<len->∃v:α,a.spot=none/\a.block<W.heap.size/\(∃cs,a_1 W a.block (a.off+i * sz α) cs/\rep W W.heap.size cs v)/\L v:=by
   intro i hi;have h1:=hel i hi;have hie:i<elems.length:=by omega
   rw [List.getElem?_eq_getElem hie] at h1
   cases hcs:W.cells? 0 (a.add<|i * P.cellsOf e) (P.cellsOf e) with
   | none=>rw [hcs] at h1;cases h1
   | some cs =>
    rw [hcs] at h1
    simp only [Option.bind_some] at h1
    obtain ⟨v,hv,hl⟩:=he.rd enc W n cs _ h1<|l_2 hw'.2<|List.mem_map_of_mem<|List.getElem_mem hie;obtain ⟨J,O⟩:=cells?_spec hcs;have hpos:0<cs.length:=by rw [J,hc];exact Dat.pos
    have hsp:a.spot=none:=by
     have G:=hel 0 (by omega)
     rw [List.getElem?_eq_getElem (show 0<elems.length by omega)] at G
     cases H:W.cells? 0 (a.add<|0 * P.cellsOf e) (P.cellsOf e) with
     | none=>rw [H] at G;cases G
     | some I =>
      obtain ⟨V,Y⟩:=cells?_spec H;have hpos0:0<I.length:=by rw [V,hc];exact Dat.pos
      have:=Y 0 I[0] (by rw [List.getElem?_eq_getElem hpos0]);have:=o_3 this
      simpa [Addr.add] using this
    have ha:a=⟨a.block,a.off,none⟩:=by cases a;simp only at hsp;rw [hsp]
    have hcells:a_1 W a.block (a.off+i * sz α) cs:=by
     intro j u hu;have:=O j u hu
     rw [ha,Addr.add_lit,Addr.add_lit,hc] at this
     exact this
    exact ⟨v,hsp,hcells.lt (by intro h;rw [h] at hpos;cases hpos),⟨cs,hcells,hv⟩,hl⟩
  obtain ⟨l,hll,hq⟩:=l_4 _ len hone;refine ⟨l,⟨_,rfl,some a,cap,by rw [hll],by omega,by omega,λh=>(by cases h),λp hp=>?_⟩,by omega,λx hx=>?_⟩
  .obtain rfl:=Option.some.inj hp;refine ⟨λhne=>?_,λhne=>?_,λi x hx=>(hq i x hx).2.2.1⟩
   .cases l with
    | nil=>exact absurd rfl hne
    | cons y l=>exact (hq 0 y rfl).1
   .cases l with
    | nil=>exact absurd rfl hne
    | cons y l=>exact (hq 0 y rfl).2.1
  .obtain ⟨i,hi⟩:=List.getElem?_of_mem hx
   exact (hq i x hi).2.2.2⟩
structure OkW (P:Program)(W:World)(base:Nat)(t:TypeId)(v:Value):Prop where
 h:Value.okWide P W .any base t v
structure OkWs (P:Program)(W:World)(base:Nat)(ts:Array TypeId)(vs:Array Value):Prop where
 h:∀(j:Nat) t v,ts[j]? = some t->vs[j]? = some v->Value.okWide P W .any base t v
theorem OkWs.at {W:World}{base:Nat}{ts:Array TypeId}{vs:Array Value}(h:OkWs P W base ts vs)(j:Nat)(t:TypeId)(v:Value)(h1:ts[j]? = some t)(h2:vs[j]? = some v):OkW P W base t v:=⟨h.h j t v h1 h2⟩
theorem o_5 {W:World}{base:Nat}{t:TypeId}{v:Value}{e:TypeId}(ht:P.underlying t=some (.slice e))(h:OkW P W base t v):∃a n c,v = .slice a n c:=okWide_slice ht h.h
theorem l_5 {H:Type}{enc:TypeId×Value->H}(hl:laidOutB P=true){W W':World}(hb:Below W.heap.size W W'):∀(ts:List TypeId)(vs:List Value)(ds:List (DataW H))(ps:List MemPlace),(∀t∈ts,P.readableRec t=true/\t<P.types.size) ->
  DataW.TrodAll enc P W 0 (λ_=>true) true ts vs ds ps->(∀x∈ps,x.block<W.heap.size)->∀(sp:Nat->Bool),(∀b,b<W.heap.size->sp b=true)->DataW.TrodAll enc P W' 0 sp true ts vs ds ps
 | [],[],[],_,_,h,_,_,_=>h
 | t::ts,v::vs,d::ds,ps,hr,h,hlt,sp,hsp=>by
  obtain ⟨p,q,h1,h2,rfl⟩:=h;refine ⟨p,q,?_,l_5 hl hb ts vs ds q (λt ht=>hr t<|List.mem_cons_of_mem _ ht) h2 (λx hx=>hlt x<|List.mem_append_right _ hx) sp hsp,rfl⟩;have hlp:∀x∈p,x.block<W.heap.size:=λx hx=>hlt x<|List.mem_append_left _ hx
  exact WideElems.Trod_stays hl (hr t List.mem_cons_self).1 (hr t List.mem_cons_self).2 h1 (λx hx=>hb.same<|hlp x hx) (λx hx=>hsp _<|hlp x hx)
 | [],_::_,_,_,_,h,_,_,_=>by cases h
 | [],[],_::_,_,_,h,_,_,_=>by cases h
 | _::_,[],_,_,_,h,_,_,_=>by cases h
 | _::_,_::_,[],_,_,h,_,_,_=>by cases h
theorem o_6 {H:Type}{enc:TypeId×Value->H}{f:Func}{s:ChangeSpec}{apart fresh handsOn again:Bool}{W W':World}{args:Array Value}{ds gs:List (DataW H)}{before:List MemPlace}{tb:TypeId}(hl:laidOutB P=true)(hread:∀t∈f.params.toList,P.readableRec t=true/\t<P.types.size)
  (hb:Below W.heap.size W W') (hW:DataW.Whole enc P f.params.toList s.vars apart W args.toList ds gs before) (hres:f.resultTypes = #[tb]) (htb:P.underlying tb=some .bool) (hvars:s.vars=[]) (hfn:s.fn H (ds++gs)={ results:=[.lit (.bool true)],args:=ds }) :
  s.post enc P f apart fresh handsOn again W args (.bool true) W':=by
 have hlt:∀x∈before,x.block<W.heap.size:=λp hp=>hW.lt p hp
 have hW':=hW;obtain ⟨p,q,hA,hV,rfl,hz,hn⟩:=hW
 rw [hvars] at hV
 obtain ⟨rfl,rfl⟩:=trodVars_none hV;have hA':=λsp hsp=>l_5 hl hb _ _ _ _ hread hA (λx hx=>hlt x (by simpa using hx)) sp hsp
 have hr:∀(b:Nat)(sp:Nat->Bool)(hd:Bool),DataW.TrodAll enc P W' b sp hd f.resultTypes.toList ((Value.bool true).resultList f.resultTypes.size) (s.fn H<|ds++[]).results []:=λb sp hd=>by
  rw [hfn,hres];exact trodAll_cons_mk (shut_bool htb _) trodAll_mk0
 have hvs:∀sp:Nat->Bool,DataW.TrodVars enc P W' sp s.vars (s.fn H<|ds++[]).vars []:=λsp=>by rw [hfn,hvars];rfl
 refine ⟨ds,[],p++[],[],p,[],hW',hr _ _ _,by rw [hfn];exact hA' _ (λb hb=>by simpa using hb),hvs _,hb.frame _,λ_=>⟨?_,([.lit (.bool true)]:List (DataW H))++ds,[],([]++p)++[],⟨[]++p,[],?_,?_,rfl,?_,?_⟩,?_⟩⟩
 .exact ok_one hres rfl<|okWide_bool_mk htb _
 .have h1:=hr 0 (λ_=>true) true
  rw [hfn] at h1
  exact trodAll_append (hA' _<|λ_ _=>rfl) h1
 .rw [hvars];rfl
 .intro b off hp;have hp':MemPlace.cell b off∈p++[]:=by simpa using hp
  have:=hlt _ hp'
  rw [hb.frozen (p:=⟨b,off,none⟩) this]
  exact hz b off hp'
 .intro ha;have:=hn ha;simpa using this
 .intro x hx _;simpa using hx
end
end Go.Vw
namespace Go.Vw
open Go.RowKit Dat
theorem q_V {x y:Int}(h1 : -9223372036854775808<=x+y)(h2:x+y<=9223372036854775807):j_ x y=x+y:=by
 unfold j_;rw [IntKind.wrap_i64];omega
theorem a_Y {x y:Int}(h1 : -9223372036854775808<=x - y)(h2:x - y<=9223372036854775807):J_ x y=x - y:=by
 unfold J_;rw [IntKind.wrap_i64];omega
theorem d_x {x y:Int}(h1 : -9223372036854775808<=x * y)(h2:x * y<=9223372036854775807):a_f x y=x * y:=by
 unfold a_f;rw [IntKind.wrap_i64];omega
theorem m_K {x y:Int}(G:0<=x)(hx:x<=9223372036854775807)(hy:0<y):c_4 x y=x / y:=by
 unfold c_4
 rw [Int.tdiv_eq_ediv_of_nonneg G,IntKind.wrap_i64]
 have h1:=Int.ediv_nonneg G<|Int.le_of_lt hy;have h2:=Int.ediv_le_self y G
 omega
theorem e_E {x y:Int}(G:0<=x):a_8 x y=x % y:=by
 unfold a_8;exact Int.tmod_eq_emod_of_nonneg G
theorem q_W {a b:UInt8}:byteI a=byteI b ↔ a=b:=by
 unfold byteI
 constructor
 .intro h;have:a.toNat=b.toNat:=by omega
  exact UInt8.toNat_inj.1 this
 .rintro rfl;rfl
section
variable {α:Type}
theorem k_C {l:List α}{k:Nat}(h:k<l.length):idx l (k:Int)=some l[k]:=by rw [k_Y];simp [h]
theorem e_7 {l:List α}{i:Int}(G:0<=i)(h:i.toNat<l.length):idx l i=some l[i.toNat]:=by
 unfold idx;rw [if_pos G];simp [h]
theorem b_f {l:List α}(h:0<l.length):idx l 0=some l[0]:=k_C (k:=0) h
theorem f_v {l:List α}(h:1<l.length):idx l 1=some l[1]:=k_C (k:=1) h
theorem g_N {l:List α}{a b:Int}(G:0<=a)(h1:a<=b)(h2:b<=l.length):slc l a b=some ((l.take b.toNat).drop a.toNat):=by
 unfold slc;rw [if_pos ⟨G,h1,h2⟩]
theorem a_R {l:List α}{x:α}(h:l.length<LIM):psh l x=some (l++[x]):=by unfold psh;rw [if_pos h]
theorem b_I {l m:List α}(h:l.length+m.length<=LIM):app l m=some (l++m):=by unfold app;rw [if_pos h]
theorem e_F {s t:Str}(h:s.b.length+t.b.length<=LIM):cat s t=some ⟨s.b++t.b⟩:=by unfold cat;rw [if_pos h]
theorem g_O {l:List α}{k:Nat}{x:α}(h:k<l.length):upd l (k:Int) x=some (l.set k x):=by
 unfold upd;rw [if_pos ⟨by omega,by omega⟩];rfl
theorem m_L {l:List α}{i:Int}{x:α}(G:0<=i)(h:i<l.length):upd l i x=some (l.set i.toNat x):=by
 unfold upd;rw [if_pos ⟨G,h⟩]
theorem k_D {z:α}{n:Int}(G:0<=n)(h:n<=LIM):mk0 z n=some (List.replicate n.toNat z):=by
 unfold mk0;rw [if_pos ⟨G,h⟩]
end
section
variable {σ ρ:Type}
theorem m_M {body:Nat->σ->Option (Out σ ρ)}(st:Nat->σ):∀n k,(∀j,k<=j->j<k+n->body j (st j)=some (.next<|st<|j+1))->G_ body n k (st k)=some (.inl<|st<|k+n)
 | 0,k,_=>rfl
 | n+1,k,h=>by
  have h1:=h k (Nat.le_refl _) (by omega);have h2:=m_M st n (k+1)<|λj a b=>h j (by omega) (by omega);unfold G_
  rw [h1]
  simp only
  rw [h2,show k+1+n=k+(n+1) by omega]
theorem d_y {body:Nat->σ->Option (Out σ ρ)}(st:Nat->σ){n:Nat}(h:∀j,j<n->body j (st j)=some (.next<|st<|j+1)):G_ body n 0 (st 0)=some (.inl<|st n):=by
 have:=m_M st n 0<|λj _ b=>h j (by omega)
 simpa using this
theorem forN_ret' {body:Nat->σ->Option (Out σ ρ)}(st:Nat->σ){r:ρ}:∀n k j0,k<=j0->j0<k+n->(∀j,k<=j->j<j0->body j (st j)=some (.next<|st<|j+1))->body j0 (st j0)=some (.ret r)->G_ body n k (st k)=some (.inr r)
 | 0,k,j0,a,b,_,_=>by omega
 | n+1,k,j0,a,b,h,hr=>by
  unfold G_
  by_cases hk:k=j0
  .subst hk;rw [hr]
  .rw [h k (Nat.le_refl _) (by omega)]
   exact forN_ret' st n (k+1) j0 (by omega) (by omega) (λj c d=>h j (by omega) d) hr
theorem g_P {body:Nat->σ->Option (Out σ ρ)}(st:Nat->σ){r:ρ}{n j0:Nat}(G:j0<n)(h:∀j,j<j0->body j (st j)=some (.next<|st<|j+1))(hr:body j0 (st j0)=some (.ret r)):G_ body n 0 (st 0)=some (.inr r) :=
 forN_ret' st n 0 j0 (by omega) (by omega) (λj _ b=>h j b) hr
theorem e_G {body:Nat->Unit->Option (Out Unit ρ)}{n:Nat}(p:Nat->Bool)(r:Nat->ρ)(h:∀k,k<n->(∀j,j<k->p j=false)->body k ()=some (if p k then .ret (r k) else .next ())) :
  G_ body n 0 ()=some (match (List.range n).find? p with | some k=>.inr (r k) | none=>.inl ()):=by
 cases hf:(List.range n).find? p with
 | none =>
  have hn:∀k,k<n->p k=false:=λk hk=>by
   have:=List.find?_eq_none.1 hf k<|List.mem_range.2 hk
   simpa using this
  exact d_y (λ_=>()) (λj hj=>by rw [h j hj (λi hi=>hn i (by omega)),hn j hj];rfl)
 | some k =>
  obtain ⟨hp,as,bs,hl,has⟩:=List.find?_eq_some_iff_append.1 hf
  have hk:as.length<n/\as.length=k:=by
   have h1:as.length<(List.range n).length:=by rw [hl];simp
   simp at h1
   refine ⟨h1,?_⟩;have h2:(List.range n)[as.length]? = some k:=by rw [hl];simp
   rw [List.getElem?_range h1] at h2
   exact Option.some.inj h2
  obtain ⟨h1,rfl⟩:=hk
  have hb:∀j,j<as.length->p j=false:=λj hj=>by
   have h2:(List.range n)[j]? = some (as[j]):=by rw [hl,List.getElem?_append_left hj];simp
   rw [List.getElem?_range (by omega)] at h2
   have h3:=has as[j] (List.getElem_mem hj)
   rw [← Option.some.inj h2] at h3
   simpa using h3
  exact g_P (λ_=>()) h1 (λj hj=>by rw [h j (by omega) (λi hi=>hb i (by omega)),hb j hj];rfl) (by rw [h _ h1 hb,if_pos hp])
theorem q_X {α:Type}(l:List α)(p:α->Bool)(q:Nat->Bool)(h:∀k (hk:k<l.length),q k=p l[k]):(List.range l.length).any q=l.any p:=by
 rw [Bool.eq_iff_iff]
 simp only [List.any_eq_true,List.mem_range]
 constructor
 .rintro ⟨k,hk,hq⟩;exact ⟨l[k],List.getElem_mem hk,by rw [← h k hk];exact hq⟩
 .rintro ⟨x,hx,hp⟩;obtain ⟨k,hk,rfl⟩:=List.getElem_of_mem hx;exact ⟨k,hk,by rw [h k hk];exact hp⟩
theorem e_8 {body:Nat->Unit->Option (Out Unit ρ)}{n:Nat}(p:Nat->Bool)(r:ρ)(h:∀k,k<n->(∀j,j<k->p j=false)->body k ()=some (if p k then .ret r else .next ())) :
  G_ body n 0 ()=some (if (List.range n).any p then .inr r else .inl ()):=by
 rw [e_G p (λ_=>r) h]
 cases hf:(List.range n).find? p with
 | none =>
  have:(List.range n).any p=false:=by
   rw [List.any_eq_false];exact λx hx=>by simpa using List.find?_eq_none.1 hf x hx
  rw [this];rfl
 | some k =>
  have:(List.range n).any p=true:=List.any_eq_true.2 ⟨k,List.mem_of_find?_eq_some hf,List.find?_some hf⟩
  rw [this];rfl
theorem f_w {α:Type}{body:Nat->Unit->Option (Out Unit ρ)}{l:List α}(p:α->Bool)(r:ρ)(h:∀k (hk:k<l.length),body k ()=some (if p l[k] then .ret r else .next ())) :
  G_ body l.length 0 ()=some (if l.any p then .inr r else .inl ()):=by
 rw [e_8 (λk=>if hk:k<l.length then p l[k] else false) r (λk hk _=>by rw [dif_pos hk];exact h k hk)]
 rw [q_X l p _ (λk hk=>by rw [dif_pos hk])]
theorem iter_brk' {step:σ->Option (Out σ ρ)}(st:Nat->σ){s:σ}:∀m k j0,k<=j0->j0<k+m->(∀j,k<=j->j<j0->step (st j)=some (.next<|st<|j+1))->step (st j0)=some (.brk s)->a_a step m (st k)=some (.inl s)
 | 0,k,j0,a,b,_,_=>by omega
 | m+1,k,j0,a,b,h,hr=>by
  unfold a_a
  by_cases hk:k=j0
  .subst hk;rw [hr]
  .rw [h k (Nat.le_refl _) (by omega)]
   exact iter_brk' st m (k+1) j0 (by omega) (by omega) (λj c d=>h j (by omega) d) hr
theorem q_Y {step:σ->Option (Out σ ρ)}(st:Nat->σ){s:σ}{m j0:Nat}(G:j0<m)(h:∀j,j<j0->step (st j)=some (.next<|st<|j+1))(hr:step (st j0)=some (.brk s)):a_a step m (st 0)=some (.inl s) :=
 iter_brk' st m 0 j0 (by omega) (by omega) (λj _ b=>h j b) hr
theorem iter_ret' {step:σ->Option (Out σ ρ)}(st:Nat->σ){r:ρ}:∀m k j0,k<=j0->j0<k+m->(∀j,k<=j->j<j0->step (st j)=some (.next<|st<|j+1))->step (st j0)=some (.ret r)->a_a step m (st k)=some (.inr r)
 | 0,k,j0,a,b,_,_=>by omega
 | m+1,k,j0,a,b,h,hr=>by
  unfold a_a
  by_cases hk:k=j0
  .subst hk;rw [hr]
  .rw [h k (Nat.le_refl _) (by omega)]
   exact iter_ret' st m (k+1) j0 (by omega) (by omega) (λj c d=>h j (by omega) d) hr
theorem q_Z {step:σ->Option (Out σ ρ)}(st:Nat->σ){r:ρ}{m j0:Nat}(G:j0<m)(h:∀j,j<j0->step (st j)=some (.next<|st<|j+1))(hr:step (st j0)=some (.ret r)):a_a step m (st 0)=some (.inr r) :=
 iter_ret' st m 0 j0 (by omega) (by omega) (λj _ b=>h j b) hr
end
theorem m_N {s:Str}{p:Nat}(h:p<s.b.length)(ha:s.b[p].toNat<128):dec s p=((s.b[p].toNat:Int),1):=by
 have hq:p<(⟨s.b.toArray⟩:ByteArray).size:=by simpa [ByteArray.size] using h
 have hb:(⟨s.b.toArray⟩:ByteArray)[p]'hq=s.b[p]:=rfl;unfold dec
 rw [decode_ascii _ p hq (by rw [hb];exact ha),hb]
theorem r_0 {s:Str}{p:Nat}(h:p<s.b.length)(ha:128<=s.b[p].toNat):128<=(dec s p).1:=by
 have hq:p<(⟨s.b.toArray⟩:ByteArray).size:=by simpa [ByteArray.size] using h
 have hb:(⟨s.b.toArray⟩:ByteArray)[p]'hq=s.b[p]:=rfl;unfold dec;have:=(decode_high _ p hq (by rw [hb];exact ha)).1
 simp only
 omega
abbrev bF_:=@Bool.false_eq_true
abbrev dT_:=@decide_eq_true
abbrev dF_:=@decide_eq_false
abbrev bQ_:=@beq_self_eq_true
abbrev mT_:=@List.mem_cons_of_mem
abbrev mS_:=@List.mem_cons_self
abbrev gE_:=@List.getElem_mem
abbrev oI_:=@Option.some.injEq
abbrev gG_:=@List.getElem?_eq_getElem
abbrev gD_:=@List.getD_eq_getElem?_getD
abbrev aE_:=@Bool.and_eq_true
abbrev dE_:=@decide_eq_true_eq
abbrev tN_:=@Int.toNat_natCast
abbrev gS_:=@List.getElem?_eq_some_iff
abbrev iP_:=@if_pos
abbrev iN_:=@if_neg
abbrev fF_:=@if_false
abbrev fT_:=@if_true
abbrev gN_:=@List.getElem?_eq_none
abbrev nT_:=@Bool.not_true
abbrev ix_:=@k_C
abbrev ia_:=@q_V
abbrev lC_:=@List.length_cons
abbrev bN_:=@bne_self_eq_false
abbrev dC_:=@List.drop_eq_getElem_cons
end Go.Vw
