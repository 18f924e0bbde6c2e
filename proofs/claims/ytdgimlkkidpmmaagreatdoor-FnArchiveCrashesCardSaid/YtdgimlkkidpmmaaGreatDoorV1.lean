import Derived.Test.YtdgimlkkidpmmaaGreatDoorV0
import Derived.Lib.Join
import Derived.Carry
import Derived.Deep.DeepHandedRow
import Derived.WalkKit
import Derived.ProofKit
import Derived.OpenShut
import Derived.Laws.RangeAny
set_option linter.unusedVariables false
namespace Go.Vw
def a_Q (x1:Int)(x2:Int)(x3:Int):Option Bool :=
 bd (α:=Bool) (if (decide<|x2<=x1) then some (decide<|x1<=x3) else some false) (λG=>some G)
def g_n (x1:Str):Option Bool :=
 bd (t_ (σ:=Unit) (ρ:=Bool) (λk10=>(λ(_:Unit)=>bd (α:=Bool) (bd (idx x1.b (k10:Int)) λG=>if (decide<|(byteI (97:UInt8))<=(byteI G)) then bd (idx x1.b (k10:Int)) λH=>some (decide<|(byteI H)<=(byteI (122:UInt8))) else some false) (λI=>bd (α:=Bool) (bd (idx x1.b (k10:Int)) λJ=>if (decide<|(byteI (48:UInt8))<=(byteI J)) then bd (idx x1.b (k10:Int)) λL=>some (decide<|(byteI L)<=(byteI (57:UInt8))) else some false) (λO=>bd (α:=Bool) (if (!I) then if (!O) then some true else some ((k10:Int)==0) else some false) (λV=>if V then some (.ret false) else some (.next ())))))) x1.b.length 0 ()) (el (λ(_:Unit)=>bd (a_Q (x1.b.length:Int) 1 12) λW=>some W)<|λY=>some Y)
def d_X (n:Nat)(x1:Int):Option Str :=
 if (x1==0) then some (⟨[48]⟩:Str) else bd (C_ (σ:=Str×Int) (ρ:=Str) (un2 λH G=>if (G != 0) then bd (α:=Int) (if (decide<|(a_d G 10)<0) then some (h_g<|a_d G 10) else some (a_d G 10)) (λI=>bd (cat (⟨[mkB (d_ 48 I)]⟩:Str) H) λJ=>some<|.next (J,b_O G 10)) else some (.brk (H,G))) n ((⟨[]⟩:Str),x1)) (el (un2 λH G=>if (decide<|x1<0) then bd (cat (⟨[45]⟩:Str) H) λL=>some L else some H)<|λO=>some O)
def c_R (x1:b_)(x2:Bool)(x3:Bool)(x4:Bool)(x5:Bool)(x6:Int):Option Bool :=
 bd (α:=Bool) (bd (α:=Bool) (if x2 then some true else some (x1.size==0)) λG=>bd (α:=Bool) (if G then if x3 then some true else some ((x1.bytes.length:Int)==0) else some false) λH=>bd (α:=Bool) (if H then if x4 then some true else some ((x1.names.length:Int)==0) else some false) λI=>bd (α:=Bool) (if I then if x5 then some true else some ((x1.tags.length:Int)==0) else some false) λJ=>bd (α:=Bool) (if J then if (decide<|x6<0) then some true else some ((x1.kids.length:Int)==x6) else some false) λL=>if L then if (!x1.little) then some true else some (x1.kind==1) else some false) (λO=>some O)
def c_F (x1:Int):Option Int :=
 bd (nn<|U_ 8 x1) λG=>some<|b_d .i64 1<|U_ 8 x1
def d_z (x1:c_)(x2:Int):Option Int :=
 bd (α:=Bool) (bd (a_Q x2 0<|h_ (x1.rules.length:Int) 1) λG=>if (!G) then some true else bd (idx x1.rules x2) λH=>if (H.kind != 1) then some true else bd (idx x1.rules x2) λI=>bd (a_Q I.size 1 4) λJ=>some (!J)) (λL=>if L then some (-1) else bd (idx x1.rules x2) λO=>bd (c_F O.size) λV=>some<|h_ V 1)
def j_0 (x1:List Str)(x2:Str):Option Bool :=
 bd (t_ (σ:=Unit) (ρ:=Bool) (λk10=>(λ(_:Unit)=>bd (idx x1 (k10:Int)) λG=>if (G.b==x2.b) then some (.ret true) else some (.next ()))) x1.length 0 ()) (el (λ(_:Unit)=>some false)<|λH=>some H)
def j_1 (x1:List Str):Option Bool :=
 bd (t_ (σ:=Unit) (ρ:=Bool) (λk10=>(λ(_:Unit)=>bd (α:=Bool) (bd (idx x1 (k10:Int)) λG=>bd (g_n G) λH=>if (!H) then some true else bd (slc x1 0 (k10:Int)) λI=>bd (idx x1 (k10:Int)) λJ=>bd (j_0 I J) λL=>some L) (λO=>if O then some (.ret false) else some (.next ())))) x1.length 0 ()) (el (λ(_:Unit)=>bd (a_Q (x1.length:Int) 1 8) λV=>some V)<|λW=>some W)
def j_2 (x1:c_)(x2:b_):Option Bool :=
 bd (α:=Bool) (if ((x2.kids.length:Int) != (d_ (x2.tags.length:Int) 1)) then some true else bd (a_Q (x2.tags.length:Int) 1 8) λG=>some (!G)) (λH=>if H then some false else bd (t_ (σ:=Unit) (ρ:=Bool) (λk10=>(λ(_:Unit)=>bd (α:=Bool) (bd (idx x2.tags (k10:Int)) λI=>bd (idx x2.kids 0) λJ=>bd (d_z x1 J) λL=>bd (a_Q I 0 L) λO=>if (!O) then some true else if (decide<|0<(k10:Int)) then bd (idx x2.tags<|h_ (k10:Int) 1) λV=>bd (idx x2.tags (k10:Int)) λW=>some (decide<|W<=V) else some false) (λY=>if Y then some (.ret false) else some (.next ())))) x2.tags.length 0 ()) (el (λ(_:Unit)=>some true)<|λa0=>some a0))
def j_3 (x1:c_)(x2:b_):Option Bool :=
 if (x2.kind==1) then bd (α:=Bool) (bd (c_R x2 true false false false 0) λG=>if G then bd (a_Q x2.size 1 4) λH=>if H then if (!x2.little) then some true else some (decide<|1<x2.size) else some false else some false) (λI=>some I) else if (x2.kind==2) then bd (α:=Bool) (bd (c_R x2 false true false false 0) λJ=>if J then bd (a_Q (x2.bytes.length:Int) 1 16) λL=>some L else some false) (λO=>some O) else if (x2.kind==3) then bd (α:=Bool) (bd (c_R x2 true false false false 0) λV=>if V then bd (a_Q x2.size 1 64) λW=>some W else some false) (λY=>some Y) else if (x2.kind==4) then bd (α:=Bool) (bd (c_R x2 false false false false 1) λa0=>if a0 then bd (idx x2.kids 0) λa1=>bd (d_z x1 a1) λa2=>some (decide<|0<a2) else some false) (λa3=>some a3) else if (x2.kind==5) then bd (α:=Bool) (bd (c_R x2 false false false false 2) λa4=>if a4 then bd (idx x2.kids 0) λa5=>bd (d_z x1 a5) λa6=>some (decide<|0<a6) else some false) (λa7=>some a7) else if (x2.kind==6) then bd (α:=Bool) (bd (c_R x2 false false true false (x2.names.length:Int)) λa8=>if a8 then bd (j_1 x2.names) λa9=>some a9 else some false) (λaa=>some aa) else if (x2.kind==7) then bd (α:=Bool) (bd (c_R x2 false false false true (-1)) λab=>if ab then bd (j_2 x1 x2) λad=>some ad else some false) (λae=>some ae) else bd (α:=Bool) (if (x2.kind==8) then some (x2.kind==8) else some (x2.kind==9)) (λaf=>if af then bd (c_R x2 false false false false 1) λah=>some ah else if (x2.kind==10) then bd (α:=Bool) (bd (c_R x2 false true false false 0) λai=>if ai then if ((x2.bytes.length:Int)==1) then bd (idx x2.bytes 0) λaj=>some ((byteI aj) != (byteI (92:UInt8))) else some false else some false) (λak=>some ak) else some false)
def j_4 (x1:c_)(x2:Int):Option Bool :=
 bd (a_Q x2 0<|h_ (x1.rules.length:Int) 1) λH=>if (!H) then some false else bd (idx x1.rules x2) λG=>bd (t_ (σ:=Unit) (ρ:=Bool) (λI=>(λ(_:Unit)=>bd (idx x1.rules (I:Int)) λJ=>if (J.name.b==G.name.b) then some (.ret false) else some (.next ()))) x2.toNat 0 ()) (el (λ(_:Unit)=>bd (t_ (σ:=Unit) (ρ:=Bool) (λL=>(λ(_:Unit)=>bd (idx G.kids (L:Int)) λO=>bd (a_Q O 0<|h_ x2 1) λV=>if (!V) then some (.ret false) else some (.next ()))) G.kids.length 0 ()) (el (λ(_:Unit)=>bd (α:=Bool) (bd (g_n G.name) λW=>if W then bd (j_3 x1 G) λY=>some Y else some false)<|λa0=>some a0)<|λa1=>some a1))<|λa2=>some a2)
def f_7 (x1:c_):Option Bool :=
 bd (t_ (σ:=Unit) (ρ:=Bool) (λk10=>(λ(_:Unit)=>bd (j_4 x1 (k10:Int)) λG=>if (!G) then some (.ret false) else some (.next ()))) x1.rules.length 0 ()) (el (λ(_:Unit)=>bd (a_Q (x1.rules.length:Int) 1 24) λH=>some H)<|λI=>some I)
def g_o (x1:c_):Option Int :=
 some (h_ (x1.rules.length:Int) 1)
def h_G (x1:Bt)(x2:Bool):Option Int :=
 if (decide<|4<(x1.length:Int)) then some 0 else bd (t_ (σ:=Int) (ρ:=Int) (λH=>(λG=>bd (α:=Int) (if x2 then some (h_ (h_ (x1.length:Int) 1) (H:Int)) else some (H:Int))<|λI=>bd (idx x1 I) λJ=>some<|.next<|d_ (U_ G 256)<|byteI J)) x1.length 0 0) (el (λG=>some G)<|λL=>some L)
def g_p (x1:c_)(x2:Int)(x3:Bt)(x4:Int):Option (Int×Int×Bool) :=
 bd (idx x1.rules x2) λG=>if (decide<|(h_ (x3.length:Int) x4)<G.size) then some (0,x4,false) else bd (slc x3 x4<|d_ x4 G.size) λH=>bd (h_G H G.little) λI=>some (I,d_ x4 G.size,true)
def b_z (x1:b_)(x2:Int)(x3:Int):Option Int :=
 if (x1.kind==5) then bd (idx x1.kids 1) λG=>some G else bd (α:=Sum Unit Int) (if (x1.kind==6) then if (decide<|x3<(x1.kids.length:Int)) then bd (idx x1.kids x3) λH=>some (.inr H) else some (.inl ()) else bd (α:=Sum Unit<|Sum Unit Int) (if (x1.kind==7) then bd (t_ (σ:=Unit) (ρ:=Int) (λk10=>(λ(_:Unit)=>bd (idx x1.tags (k10:Int)) λI=>if (I==x2) then bd (idx x1.kids ((k10+1:Nat):Int)) λJ=>some (.ret J) else some (.next ()))) x1.tags.length 0 ()) (el (λ(_:Unit)=>some<|.inl ())<|λL=>some<|.inr<|.inr L) else bd (α:=Bool) (if (x1.kind==8) then some (x1.kind==8) else some (x1.kind==9)) (λO=>if O then bd (idx x1.kids 0) λV=>some (.inr<|.inr V) else some (.inl ()))) (el (λ(_:Unit)=>some<|.inl ()) some)) (el (λ(_:Unit)=>some (-1)) some)
def j_5 (x1:b_)(x2:Bt)(x3:Int):Option (Val×Int×Int) :=
 bd (t_ (σ:=Unit) (ρ:=Val×Int×Int) (λk10=>(λ(_:Unit)=>if (decide<|(x2.length:Int)<=(d_ x3 (k10:Int))) then some (.ret ((⟨0,([]:Bt),([]:List Val)⟩:Val),x3,1)) else bd (idx x2<|d_ x3 (k10:Int)) λG=>bd (idx x1.bytes (k10:Int)) λH=>if ((byteI G) != (byteI H)) then some (.ret ((⟨0,([]:Bt),([]:List Val)⟩:Val),d_ x3 (k10:Int),2)) else some (.next ()))) x1.bytes.length 0 ()) (el (λ(_:Unit)=>some ((⟨0,([]:Bt),([]:List Val)⟩:Val),d_ x3 (x1.bytes.length:Int),0))<|λI=>some I)
def h_H (x1:Bt)(x2:Int)(x3:Int):Option (Val×Int×Int) :=
 if (decide<|(h_ (x1.length:Int) x2)<x3) then some ((⟨0,([]:Bt),([]:List Val)⟩:Val),x2,1) else bd (slc x1 x2<|d_ x2 x3) λG=>bd (app ([]:Bt) G) λH=>some ((⟨0,H,([]:List Val)⟩:Val),d_ x2 x3,0)
def j_6 (n:Nat)(x1:Bt)(x2:Int)(x3:UInt8):Option (Bt×Int×Bool) :=
 bd (C_ (σ:=Bt×Int) (ρ:=Bt×Int×Bool) (un2 λH G=>bd (α:=Bool) (bd (a_Q x2 0 (x1.length:Int)) λJ=>if J then some (decide<|G<(x1.length:Int)) else some false) (λL=>if L then bd (idx x1 G) λO=>if ((byteI O)==(byteI x3)) then some (.ret (H,d_ G 1,true)) else bd (idx x1 G) λV=>bd (α:=Sum Int<|Out (Bt×Int)<|Bt×Int×Bool) (if ((byteI V)==(byteI (92:UInt8))) then if ((d_ G 1)==(x1.length:Int)) then some (.inr<|.brk (H,d_ G 1)) else some (.inl<|d_ G 1) else some (.inl G)) (el (λI=>bd (idx x1 I) λW=>bd (psh H W) λY=>some<|.next (Y,d_ I 1)) some) else some (.brk (H,G)))) n (([]:Bt),x2)) (el (un2 λH G=>some (([]:Bt),x2,false))<|λa0=>some a0)
def g_q (x1:Bt):Option Int :=
 bd (t_ (σ:=Int) (ρ:=Int) (λH=>(λG=>bd (idx x1 (H:Int)) λI=>some<|.next<|a_d (d_ G<|byteI I) 256)) x1.length 0 0) (el (λG=>some G)<|λJ=>some J)
structure h_I where
 spec_l11Read:c_->Int->Bt->Int->Option (Val×Int×Int)
 spec_l11Items:c_->b_->Int->Int->Bt->Int->Option (Val×Int×Int)
 spec_l11Choice:c_->b_->Bt->Int->Option (Val×Int×Int)
 spec_l11Option:c_->b_->Bt->Int->Option (Val×Int×Int)
 spec_l11Checked:c_->b_->Bt->Int->Option (Val×Int×Int)
def j_7 (n:Nat)(rec:h_I)(x1:c_)(x2:Int)(x3:Bt)(x4:Int):Option (Val×Int×Int) :=
 bd (idx x1.rules x2) λG=>if (G.kind==1) then bd3 (g_p x1 x2 x3 x4) λJ L O=>if (!O) then some ((⟨0,([]:Bt),([]:List Val)⟩:Val),x4,1) else some ((⟨J,([]:Bt),([]:List Val)⟩:Val),L,0) else if (G.kind==2) then bd3 (j_5 G x3 x4) λV W Y=>some (V,W,Y) else if (G.kind==3) then bd3 (h_H x3 x4 G.size) λa0 a1 a2=>some (a0,a1,a2) else if (G.kind==10) then bd (idx G.bytes 0) λa3=>bd3 (j_6 n x3 x4 a3) λa4 a5 a6=>if (!a6) then some ((⟨0,([]:Bt),([]:List Val)⟩:Val),x4,1) else some ((⟨0,a4,([]:List Val)⟩:Val),a5,0) else if (G.kind==6) then bd3 (rec.spec_l11Items x1 G 0 (G.kids.length:Int) x3 x4) λa7 a8 a9=>some (a7,a8,a9) else if (G.kind==7) then bd3 (rec.spec_l11Choice x1 G x3 x4) λaa ab ad=>some (aa,ab,ad) else if (G.kind==8) then bd3 (rec.spec_l11Option x1 G x3 x4) λae af ah=>some (ae,af,ah) else if (G.kind==9) then bd3 (rec.spec_l11Checked x1 G x3 x4) λai aj ak=>some (ai,aj,ak) else bd (idx G.kids 0) λal=>bd3 (g_p x1 al x3 x4) λH I am=>if (!am) then some ((⟨0,([]:Bt),([]:List Val)⟩:Val),x4,1) else if (G.kind==4) then bd3 (h_H x3 I H) λan ap aq=>some (an,ap,aq) else if (decide<|40<H) then some ((⟨0,([]:Bt),([]:List Val)⟩:Val),x4,6) else bd3 (rec.spec_l11Items x1 G 0 H x3 I) λar au av=>some (ar,au,av)
def j_8 (n:Nat)(rec:h_I)(x1:c_)(x2:b_)(x3:Int)(x4:Int)(x5:Bt)(x6:Int):Option (Val×Int×Int) :=
 bd (t_ (σ:=Int×(List Val)) (ρ:=Val×Int×Int) (λO=>un2 λG H=>bd (α:=Int×Bt×(List Val)×Int×Int) (bd (b_z x2 x3 (O:Int)) λV=>bd3 (rec.spec_l11Read x1 V x5 G) λI W Y=>some (I.number,I.bytes,I.items,W,Y)) (un5 λa0 a1 a2 J L=>if (L != 0) then some (.ret ((⟨0,([]:Bt),([]:List Val)⟩:Val),J,L)) else bd (psh H (⟨a0,a1,a2⟩:Val)) λa3=>some<|.next (J,a3))) x4.toNat 0 (x6,([]:List Val))) (el (un2 λG H=>some ((⟨0,([]:Bt),H⟩:Val),G,0))<|λa4=>some a4)
def j_9 (n:Nat)(rec:h_I)(x1:c_)(x2:b_)(x3:Bt)(x4:Int):Option (Val×Int×Int) :=
 bd (idx x2.kids 0) λJ=>bd3 (g_p x1 J x3 x4) λG L O=>if (!O) then some ((⟨0,([]:Bt),([]:List Val)⟩:Val),x4,1) else bd (b_z x2 G 0) λV=>if (decide<|V<0) then some ((⟨0,([]:Bt),([]:List Val)⟩:Val),x4,3) else bd3 (rec.spec_l11Items x1 x2 G 1 x3 L) λH W I=>bd (α:=Int) (if (I==0) then some G else some H.number)<|λY=>some ((⟨Y,H.bytes,H.items⟩:Val),W,I)
def j_a (n:Nat)(rec:h_I)(x1:c_)(x2:b_)(x3:Bt)(x4:Int):Option (Val×Int×Int) :=
 if (decide<|(x3.length:Int)<=x4) then some ((⟨0,([]:Bt),([]:List Val)⟩:Val),x4,1) else bd (idx x3 x4) λG=>if (decide<|(byteI (1:UInt8))<(byteI G)) then some ((⟨0,([]:Bt),([]:List Val)⟩:Val),x4,4) else bd (idx x3 x4) λH=>bd3 (rec.spec_l11Items x1 x2 0 (byteI H) x3<|d_ x4 1) λI J L=>some (I,J,L)
def j_b (n:Nat)(rec:h_I)(x1:c_)(x2:b_)(x3:Bt)(x4:Int):Option (Val×Int×Int) :=
 bd3 (rec.spec_l11Items x1 x2 0 1 x3 x4) λH G I=>if (I != 0) then some (H,G,I) else if (decide<|(x3.length:Int)<=G) then some ((⟨0,([]:Bt),([]:List Val)⟩:Val),G,1) else bd (idx x3 G) λJ=>bd (slc x3 x4 G) λL=>bd (g_q L) λO=>if ((byteI J) != O) then some ((⟨0,([]:Bt),([]:List Val)⟩:Val),G,5) else some (H,d_ G 1,0)
def a_u:Nat->h_I
 | 0=>⟨λ_ _ _ _=>none,λ_ _ _ _ _ _=>none,λ_ _ _ _=>none,λ_ _ _ _=>none,λ_ _ _ _=>none⟩
 | n+1=>⟨j_7 n<|a_u n,j_8 n<|a_u n,j_9 n<|a_u n,j_a n<|a_u n,j_b n<|a_u n⟩
def k_X (n:Nat):=(a_u n).spec_l11Read
def g_r (n:Nat):=(a_u n).spec_l11Items
def g_s (x1:c_)(x2:Int):Option Bool :=
 bd (α:=Bool) (bd (a_Q x2 0<|h_ (x1.rules.length:Int) 1) λG=>if G then bd (f_7 x1) λH=>some H else some false) (λI=>some I)
def j_c (n:Nat)(x1:c_)(x2:Int)(x3:Bt)(x4:Int):Option (Val×Int×Int) :=
 bd (α:=Bool) (bd (g_s x1 x2) λG=>if (!G) then some true else bd (a_Q x4 0 (x3.length:Int)) λH=>if (!H) then some true else some (decide<|400<(x3.length:Int))) (λI=>if I then some ((⟨0,([]:Bt),([]:List Val)⟩:Val),0,8) else bd3 (k_X n x1 x2 x3 x4) λJ L O=>some (J,L,O))
def j_d (n:Nat)(x1:c_)(x2:Bt):Option (Val×Int×Int) :=
 bd (α:=Int×Bt×(List Val)×Int×Int) (bd (g_o x1) λJ=>bd3 (j_c n x1 J x2 0) λG L O=>some (G.number,G.bytes,G.items,L,O)) (un5 λV W Y H I=>bd (α:=Bool) (if (I==0) then some (decide<|H<(x2.length:Int)) else some false) (λa0=>if a0 then some ((⟨0,([]:Bt),([]:List Val)⟩:Val),H,7) else some ((⟨V,W,Y⟩:Val),H,I)))
def j_e (n:Nat)(x1:c_)(x2:Bt):Option Bool :=
 bd3 (j_d n x1 x2) λH I G=>some<|G==0
def f_8 (n:Nat)(x1:Str):Option Bool :=
 bd (α:=Bool) (if (decide<|(x1.b.length:Int)<1) then some true else some (decide<|12<(x1.b.length:Int))) (λH=>if H then some false else bd (C_ (σ:=Nat) (ρ:=Bool) (λG=>if (decide<|G<x1.b.length) then bd (α:=Bool) (if (decide<|97<=((dec x1 G).1)) then some (decide<|((dec x1 G).1)<=122) else some false) (λI=>bd (α:=Bool) (if (decide<|48<=((dec x1 G).1)) then some (decide<|((dec x1 G).1)<=57) else some false) (λJ=>bd (α:=Bool) (if (!I) then if (!J) then some true else some ((G:Int)==0) else some false) (λL=>if L then some (.ret false) else some (.next<|G+(dec x1 G).2)))) else some (.brk G)) n 0) (el (λG=>some true)<|λO=>some O))
def c_4 (x1:Int)(x2:Int)(x3:Int):Option Bool :=
 bd (α:=Bool) (if (decide<|x2<=x1) then some (decide<|x1<=x3) else some false) (λG=>some G)
def f_9 (x1:c_)(x2:Int):Option Bool :=
 bd (α:=Bool) (if (decide<|0<=x2) then some (decide<|x2<(x1.rules.length:Int)) else some false) (λG=>some G)
def c_S (x1:b_)(x2:Bool)(x3:Bool)(x4:Bool)(x5:Bool)(x6:Int):Option Bool :=
 bd (α:=Bool) (bd (α:=Bool) (if x2 then some true else some (x1.size==0)) λG=>bd (α:=Bool) (if G then if x3 then some true else some ((x1.bytes.length:Int)==0) else some false) λH=>bd (α:=Bool) (if H then if x4 then some true else some ((x1.names.length:Int)==0) else some false) λI=>bd (α:=Bool) (if I then if x5 then some true else some ((x1.tags.length:Int)==0) else some false) λJ=>if J then if (decide<|x6<0) then some true else some ((x1.kids.length:Int)==x6) else some false) (λL=>some L)
def d_A (x1:c_)(x2:Int):Option Int :=
 bd (α:=Bool) (bd (f_9 x1 x2) λH=>if (!H) then some true else bd (idx x1.rules x2) λI=>if (I.kind != 1) then some true else bd (idx x1.rules x2) λJ=>bd (c_4 J.size 1 4) λL=>some (!L)) (λO=>if O then some (-1) else bd (idx x1.rules x2) λG=>bd (nn<|U_ 8 G.size) λV=>some<|h_ (b_d .i64 1<|U_ 8 G.size) 1)
def h_J (x1:List Str)(x2:Str):Option Bool :=
 bd (t_ (σ:=Unit) (ρ:=Bool) (λk10=>(λ(_:Unit)=>bd (idx x1 (k10:Int)) λG=>if (G.b==x2.b) then some (.ret true) else some (.next ()))) x1.length 0 ()) (el (λ(_:Unit)=>some false)<|λH=>some H)
def j_f (n:Nat)(x1:b_):Option Bool :=
 bd (α:=Bool) (bd (c_S x1 false false true false (-1)) λH=>if (!H) then some true else if ((x1.kids.length:Int) != (x1.names.length:Int)) then some true else bd (c_4 (x1.kids.length:Int) 1 8) λI=>some (!I)) (λJ=>if J then some false else bd (t_ (σ:=Unit) (ρ:=Bool) (λk10=>(λ(_:Unit)=>bd (idx x1.names (k10:Int)) λG=>bd (α:=Bool) (bd (f_8 n G) λL=>if (!L) then some true else bd (slc x1.names 0 (k10:Int)) λO=>bd (h_J O G) λV=>some V) (λW=>if W then some (.ret false) else some (.next ())))) x1.names.length 0 ()) (el (λ(_:Unit)=>some true)<|λY=>some Y))
def j_g (x1:c_)(x2:b_):Option Bool :=
 bd (α:=Bool) (bd (c_S x2 false false false true<|d_ (x2.tags.length:Int) 1) λI=>if (!I) then some true else bd (c_4 (x2.tags.length:Int) 1 8) λJ=>some (!J)) (λL=>if L then some false else bd (idx x2.kids 0) λO=>bd (d_A x1 O) λG=>bd (t_ (σ:=Unit) (ρ:=Bool) (λk10=>(λ(_:Unit)=>bd (idx x2.tags (k10:Int)) λH=>bd (α:=Bool) (bd (c_4 H 0 G) λV=>if (!V) then some true else if (decide<|0<(k10:Int)) then bd (idx x2.tags<|h_ (k10:Int) 1) λW=>some (decide<|H<=W) else some false) (λY=>if Y then some (.ret false) else some (.next ())))) x2.tags.length 0 ())<|el (λ(_:Unit)=>some<|decide<|0<G)<|λa0=>some a0)
def j_h (n:Nat)(x1:c_)(x2:b_):Option Bool :=
 if (x2.kind==1) then bd (α:=Bool) (bd (c_S x2 true false false false 0) λG=>if G then bd (c_4 x2.size 1 4) λH=>if H then if (!x2.little) then some true else some (decide<|1<x2.size) else some false else some false) (λI=>some I) else if (x2.kind==2) then bd (α:=Bool) (bd (c_S x2 false true false false 0) λJ=>if J then bd (c_4 (x2.bytes.length:Int) 1 16) λL=>some L else some false) (λO=>some O) else if (x2.kind==3) then bd (α:=Bool) (bd (c_S x2 true false false false 0) λV=>if V then bd (c_4 x2.size 1 64) λW=>some W else some false) (λY=>some Y) else if (x2.kind==4) then bd (α:=Bool) (bd (c_S x2 false false false false 1) λa0=>if a0 then bd (idx x2.kids 0) λa1=>bd (d_A x1 a1) λa2=>some (decide<|0<a2) else some false) (λa3=>some a3) else if (x2.kind==5) then bd (α:=Bool) (bd (c_S x2 false false false false 2) λa4=>if a4 then bd (idx x2.kids 0) λa5=>bd (d_A x1 a5) λa6=>some (decide<|0<a6) else some false) (λa7=>some a7) else if (x2.kind==6) then bd (j_f n x2) λa8=>some a8 else if (x2.kind==7) then bd (j_g x1 x2) λa9=>some a9 else bd (α:=Bool) (if (x2.kind==8) then some (x2.kind==8) else some (x2.kind==9)) (λaa=>if aa then bd (c_S x2 false false false false 1) λab=>some ab else if (x2.kind==10) then bd (α:=Bool) (bd (c_S x2 false true false false 0) λad=>if ad then if ((x2.bytes.length:Int)==1) then bd (idx x2.bytes 0) λae=>some ((byteI ae) != (byteI (92:UInt8))) else some false else some false) (λaf=>some af) else some false)
def j_i (n:Nat)(x1:c_)(x2:Int):Option Bool :=
 bd (f_9 x1 x2) λJ=>if (!J) then some false else bd (idx x1.rules x2) λG=>bd (α:=Bool) (bd (f_8 n G.name) λL=>if (!L) then some true else if G.little then some (G.kind != 1) else some false) (λO=>if O then some false else bd (slc x1.rules 0 x2) λH=>bd (t_ (σ:=Unit) (ρ:=Bool) (λV=>(λ(_:Unit)=>bd (idx H (V:Int)) λW=>if (W.name.b==G.name.b) then some (.ret false) else some (.next ()))) H.length 0 ()) (el (λ(_:Unit)=>bd (t_ (σ:=Unit) (ρ:=Bool) (λY=>(λ(_:Unit)=>bd (idx G.kids (Y:Int)) λI=>bd (α:=Bool) (if (decide<|I<0) then some true else some (decide<|x2<=I)) (λa0=>if a0 then some (.ret false) else some (.next ())))) G.kids.length 0 ())<|el (λ(_:Unit)=>bd (j_h n x1 G) λa1=>some a1)<|λa2=>some a2)<|λa3=>some a3))
def h_K (n:Nat)(x1:c_):Option Bool :=
 bd (c_4 (x1.rules.length:Int) 1 24) λG=>if (!G) then some false else bd (t_ (σ:=Unit) (ρ:=Bool) (λH=>(λ(_:Unit)=>bd (j_i n x1 (H:Int)) λI=>if (!I) then some (.ret false) else some (.next ()))) x1.rules.length 0 ()) (el (λ(_:Unit)=>some true)<|λJ=>some J)
def h_L (x1:c_):Option Int :=
 some (h_ (x1.rules.length:Int) 1)
def h_M (n:Nat)(x1:c_)(x2:Int):Option Bool :=
 bd (α:=Bool) (bd (h_K n x1) λG=>if G then bd (f_9 x1 x2) λH=>some H else some false) (λI=>some I)
def j_j (x1:Bt)(x2:Bool):Option Int :=
 if (decide<|4<(x1.length:Int)) then some 0 else bd (t_ (σ:=Int) (ρ:=Int) (λH=>(λG=>bd (α:=Int) (if x2 then bd (idx x1<|h_ (h_ (x1.length:Int) 1) (H:Int)) λI=>some (a_n .i64 (· ||| ·) (b_d .i64 G 8)<|byteI I) else bd (idx x1 (H:Int)) λJ=>some<|a_n .i64 (· ||| ·) (b_d .i64 G 8)<|byteI J)<|λL=>some<|.next L)) x1.length 0 0) (el (λG=>some G)<|λO=>some O)
def f_a (x1:Bt):Option Int :=
 bd (t_ (σ:=Int) (ρ:=Int) (λH=>(λG=>bd (idx x1 (H:Int)) λI=>some<|.next<|d_ G<|byteI I)) x1.length 0 0) (el (λG=>some<|a_d G 256)<|λJ=>some J)
def j_k (n:Nat)(x1:Bt)(x2:Int)(x3:UInt8):Option (Bt×Int×Bool) :=
 bd (α:=Bool) (if (decide<|x2<0) then some true else some (decide<|(x1.length:Int)<x2)) (λJ=>if J then some (([]:Bt),x2,false) else bd (C_ (σ:=Bt×Int) (ρ:=Bt×Int×Bool) (un2 λH G=>if (decide<|G<(x1.length:Int)) then bd (idx x1 G) λL=>if ((byteI L)==(byteI x3)) then some (.ret (H,d_ G 1,true)) else bd (idx x1 G) λO=>bd (α:=Sum Int<|Out (Bt×Int)<|Bt×Int×Bool) (if ((byteI O)==(byteI (92:UInt8))) then if ((d_ G 1)==(x1.length:Int)) then some (.inr<|.brk (H,d_ G 1)) else some (.inl<|d_ G 1) else some (.inl G)) (el (λI=>bd (idx x1 I) λV=>bd (psh H V) λW=>some<|.next (W,d_ I 1)) some) else some (.brk (H,G))) n (([]:Bt),x2)) (el (un2 λH G=>some (([]:Bt),x2,false))<|λY=>some Y))
def c_e (x1:Int)(x2:Int):Option (Option<|Int×Int) :=
 some (some (x1,x2))
def f_b (x1:a_C)(x2:Int)(x3:Int):Option (Bt×(Option<|Int×Int)) :=
 if (decide<|(h_ (x1.b.length:Int) x2)<x3) then bd (c_e x2 1) λG=>some (([]:Bt),G) else bd (slc x1.b x2<|d_ x2 x3) λH=>some (H,none)
def f_c (x1:a_C)(x2:Int)(x3:Int):Option (Int×Int×(Option<|Int×Int)) :=
 bd (idx x1.d.rules x2) λG=>bd2 (f_b x1 x3 G.size) λI H=>if H.isSome then some (0,x3,H) else bd (j_j I G.little) λJ=>some (J,d_ x3 G.size,none)
def j_l (x1:a_C)(x2:b_)(x3:Int):Option (Int×(Option<|Int×Int)) :=
 bd (t_ (σ:=Unit) (ρ:=Int×(Option<|Int×Int)) (λk10=>(λ(_:Unit)=>bd (idx x2.bytes (k10:Int)) λG=>if (decide<|(x1.b.length:Int)<=(d_ x3 (k10:Int))) then bd (c_e x3 1) λH=>some (.ret (x3,H)) else bd (idx x1.b<|d_ x3 (k10:Int)) λI=>if ((byteI I) != (byteI G)) then bd (c_e (d_ x3 (k10:Int)) 2) λJ=>some (.ret (x3,J)) else some (.next ()))) x2.bytes.length 0 ()) (el (λ(_:Unit)=>some (d_ x3 (x2.bytes.length:Int),none))<|λL=>some L)
def h_N (x1:a_C)(x2:Int)(x3:Int):Option (Val×Int×(Option<|Int×Int)) :=
 bd2 (f_b x1 x2 x3) λH G=>if G.isSome then some ((⟨0,([]:Bt),([]:List Val)⟩:Val),x2,G) else bd (app ([]:Bt) H) λI=>some ((⟨0,I,([]:List Val)⟩:Val),d_ x2 x3,none)
structure g_t where
 impl_fileReader_value:a_C->Int->Int->Option (Val×Int×(Option<|Int×Int))
 impl_fileReader_array:a_C->b_->Int->Option (Val×Int×(Option<|Int×Int))
 impl_fileReader_items:a_C->Val->(List Int)->Int->Option (Val×Int×(Option<|Int×Int))
 impl_fileReader_choice:a_C->b_->Int->Option (Val×Int×(Option<|Int×Int))
 impl_fileReader_option:a_C->b_->Int->Option (Val×Int×(Option<|Int×Int))
 impl_fileReader_checked:a_C->b_->Int->Option (Val×Int×(Option<|Int×Int))
def j_m (n:Nat)(rec:g_t)(x1:a_C)(x2:Int)(x3:Int):Option (Val×Int×(Option<|Int×Int)) :=
 bd (idx x1.d.rules x2) λG=>if (G.kind==1) then bd3 (f_c x1 x2 x3) λI J L=>some ((⟨I,([]:Bt),([]:List Val)⟩:Val),J,L) else if (G.kind==2) then bd2 (j_l x1 G x3) λO V=>some ((⟨0,([]:Bt),([]:List Val)⟩:Val),O,V) else if (G.kind==3) then bd3 (h_N x1 x3 G.size) λW Y a0=>some (W,Y,a0) else if (G.kind==4) then bd (idx G.kids 0) λa1=>bd3 (f_c x1 a1 x3) λa2 a3 H=>if H.isSome then some ((⟨0,([]:Bt),([]:List Val)⟩:Val),x3,H) else bd3 (h_N x1 a3 a2) λa4 a5 a6=>some (a4,a5,a6) else if (G.kind==5) then bd3 (rec.impl_fileReader_array x1 G x3) λa7 a8 a9=>some (a7,a8,a9) else if (G.kind==6) then bd3 (rec.impl_fileReader_items x1 (⟨0,([]:Bt),([]:List Val)⟩:Val) G.kids x3) λaa ab ad=>some (aa,ab,ad) else if (G.kind==7) then bd3 (rec.impl_fileReader_choice x1 G x3) λae af ah=>some (ae,af,ah) else if (G.kind==8) then bd3 (rec.impl_fileReader_option x1 G x3) λai aj ak=>some (ai,aj,ak) else if (G.kind==9) then bd3 (rec.impl_fileReader_checked x1 G x3) λal am an=>some (al,am,an) else bd (idx G.bytes 0) λap=>bd3 (j_k n x1.b x3 ap) λaq ar au=>if (!au) then bd (c_e x3 1) λav=>some ((⟨0,([]:Bt),([]:List Val)⟩:Val),x3,av) else some ((⟨0,aq,([]:List Val)⟩:Val),ar,none)
def j_n (n:Nat)(rec:g_t)(x1:a_C)(x2:b_)(x3:Int):Option (Val×Int×(Option<|Int×Int)) :=
 bd (idx x2.kids 0) λL=>bd3 (f_c x1 L x3) λH O I=>if I.isSome then some ((⟨0,([]:Bt),([]:List Val)⟩:Val),x3,I) else if (decide<|40<H) then bd (c_e x3 6) λV=>some ((⟨0,([]:Bt),([]:List Val)⟩:Val),x3,V) else bd (mk0 0 H) λJ=>bd (t_ (σ:=List Int) (ρ:=Val×Int×(Option<|Int×Int)) (λW=>(λG=>bd (idx x2.kids 1) λY=>bd (upd G (W:Int) Y) λa0=>some<|.next a0)) J.length 0 J)<|el (λG=>bd3 (rec.impl_fileReader_items x1 (⟨0,([]:Bt),([]:List Val)⟩:Val) G O) λa1 a2 a3=>some (a1,a2,a3))<|λa4=>some a4
def j_o (n:Nat)(rec:g_t)(x1:a_C)(x2:Val)(x3:List Int)(x4:Int):Option (Val×Int×(Option<|Int×Int)) :=
 bd (t_ (σ:=Int×(List Val)) (ρ:=Val×Int×(Option<|Int×Int)) (λJ=>un2 λG H=>bd (idx x3 (J:Int)) λL=>bd3 (rec.impl_fileReader_value x1 L G) λO V I=>if I.isSome then some (.ret ((⟨0,([]:Bt),([]:List Val)⟩:Val),G,I)) else bd (psh H O) λW=>some<|.next (V,W)) x3.length 0 (x4,x2.items)) (el (un2 λG H=>some ((⟨x2.number,x2.bytes,H⟩:Val),G,none))<|λY=>some Y)
def j_p (n:Nat)(rec:g_t)(x1:a_C)(x2:b_)(x3:Int):Option (Val×Int×(Option<|Int×Int)) :=
 bd (idx x2.kids 0) λI=>bd3 (f_c x1 I x3) λG J H=>if H.isSome then some ((⟨0,([]:Bt),([]:List Val)⟩:Val),x3,H) else bd (t_ (σ:=Unit) (ρ:=Val×Int×(Option<|Int×Int)) (λk10=>(λ(_:Unit)=>bd (idx x2.tags (k10:Int)) λL=>if (L==G) then bd (slc x2.kids ((k10+1:Nat):Int)<|d_ (k10:Int) 2) λO=>bd3 (rec.impl_fileReader_items x1 (⟨G,([]:Bt),([]:List Val)⟩:Val) O J) λV W Y=>some (.ret (V,W,Y)) else some (.next ()))) x2.tags.length 0 ()) (el (λ(_:Unit)=>bd (c_e x3 3) λa0=>some ((⟨0,([]:Bt),([]:List Val)⟩:Val),x3,a0))<|λa1=>some a1)
def j_q (n:Nat)(rec:g_t)(x1:a_C)(x2:b_)(x3:Int):Option (Val×Int×(Option<|Int×Int)) :=
 bd2 (f_b x1 x3 1) λG H=>if H.isSome then some ((⟨0,([]:Bt),([]:List Val)⟩:Val),x3,H) else bd (idx G 0) λI=>if (decide<|(byteI (1:UInt8))<(byteI I)) then bd (c_e x3 4) λJ=>some ((⟨0,([]:Bt),([]:List Val)⟩:Val),x3,J) else bd (idx G 0) λL=>if ((byteI L)==(byteI (0:UInt8))) then some ((⟨0,([]:Bt),([]:List Val)⟩:Val),d_ x3 1,none) else bd3 (rec.impl_fileReader_items x1 (⟨0,([]:Bt),([]:List Val)⟩:Val) x2.kids<|d_ x3 1) λO V W=>some (O,V,W)
def j_r (n:Nat)(rec:g_t)(x1:a_C)(x2:b_)(x3:Int):Option (Val×Int×(Option<|Int×Int)) :=
 bd3 (rec.impl_fileReader_items x1 (⟨0,([]:Bt),([]:List Val)⟩:Val) x2.kids x3) λJ G H=>if H.isSome then some ((⟨0,([]:Bt),([]:List Val)⟩:Val),x3,H) else bd2 (f_b x1 G 1) λL I=>if I.isSome then some ((⟨0,([]:Bt),([]:List Val)⟩:Val),x3,I) else bd (idx L 0) λO=>bd (slc x1.b x3 G) λV=>bd (f_a V) λW=>if ((byteI O) != W) then bd (c_e G 5) λY=>some ((⟨0,([]:Bt),([]:List Val)⟩:Val),x3,Y) else some (J,d_ G 1,none)
def a_g:Nat->g_t
 | 0=>⟨λ_ _ _=>none,λ_ _ _=>none,λ_ _ _ _=>none,λ_ _ _=>none,λ_ _ _=>none,λ_ _ _=>none⟩
 | n+1=>⟨j_m n<|a_g n,j_n n<|a_g n,j_o n<|a_g n,j_p n<|a_g n,j_q n<|a_g n,j_r n<|a_g n⟩
def k_Y (n:Nat):=(a_g n).impl_fileReader_value
def g_u (n:Nat):=(a_g n).impl_fileReader_items
def j_s (n:Nat)(x1:c_)(x2:Int)(x3:Bt)(x4:Int):Option (Val×Int×Int) :=
 bd (α:=Bool) (bd (h_M n x1 x2) λH=>if (!H) then some true else if (decide<|x4<0) then some true else if (decide<|(x3.length:Int)<x4) then some true else some (decide<|400<(x3.length:Int))) (λI=>if I then some ((⟨0,([]:Bt),([]:List Val)⟩:Val),0,8) else bd3 (k_Y n (⟨(⟨x1.rules⟩:c_),x3⟩:a_C) x2 x4) λJ L G=>if G.isSome then (bd2 G λO V=>some ((⟨0,([]:Bt),([]:List Val)⟩:Val),O,V)) else some (J,L,0))
def j_t (n:Nat)(x1:c_)(x2:Bt):Option (Val×Int×Int) :=
 bd (α:=Int×Bt×(List Val)×Int×Int) (bd (h_L x1) λJ=>bd3 (j_s n x1 J x2 0) λG L O=>some (G.number,G.bytes,G.items,L,O)) (un5 λV W Y H I=>bd (α:=Bool) (if (I==0) then some (decide<|H<(x2.length:Int)) else some false) (λa0=>if a0 then some ((⟨0,([]:Bt),([]:List Val)⟩:Val),H,7) else some ((⟨V,W,Y⟩:Val),H,I)))
def j_u (n:Nat)(x1:c_)(x2:Bt):Option Bool :=
 bd3 (j_t n x1 x2) λH I G=>some<|G==0
def n_j (x1:Bt)(x2:Bt):Option Bool :=
 some ((⟨x1⟩:Str).b==(⟨x2⟩:Str).b)
def f_d (x1:Bt)(x2:Bt):Option Bool :=
 bd (n_j x1 x2) λG=>some G
def h_O (x1:c_)(x2:Int)(x3:Val)(x4:Int):Option Int :=
 bd (idx x1.rules x2) λG=>if (G.kind==5) then bd (idx G.kids 1) λI=>some I else bd (α:=Sum Unit Int) (if (G.kind==6) then if (decide<|x4<(G.kids.length:Int)) then bd (idx G.kids x4) λJ=>some (.inr J) else some (.inl ()) else bd (α:=Sum Unit<|Sum Unit Int) (if (G.kind==7) then bd (t_ (σ:=Unit) (ρ:=Int) (λH=>(λ(_:Unit)=>bd (idx G.tags (H:Int)) λL=>if (L==x3.number) then bd (idx G.kids ((H+1:Nat):Int)) λO=>some (.ret O) else some (.next ()))) G.tags.length 0 ()) (el (λ(_:Unit)=>some<|.inl ())<|λV=>some<|.inr<|.inr V) else bd (α:=Bool) (if (G.kind==8) then some (G.kind==8) else some (G.kind==9)) (λW=>if W then bd (idx G.kids 0) λY=>some (.inr<|.inr Y) else some (.inl ()))) (el (λ(_:Unit)=>some<|.inl ()) some)) (el (λ(_:Unit)=>some (-1)) some)
def j_v (n:Nat)(x1:Bt):Option (Bt×Bool) :=
 bd (C_ (σ:=Bt×Int) (ρ:=Bt×Bool) (un2 λI G=>if (decide<|G<(x1.length:Int)) then bd (idx x1 G) λH=>bd (α:=Bool) (if ((byteI H)==0) then some true else if ((byteI H)==128) then some true else some (decide<|(x1.length:Int)<=(d_ G 1))) (λO=>if O then some (.ret (([]:Bt),false)) else bd (α:=Sum (Bt×Int)<|Out (Bt×Int)<|Bt×Bool) (if (decide<|128<(byteI H)) then bd (t_ (σ:=Bt) (ρ:=Bt×Bool) (λa4=>(λJ=>bd (idx x1<|d_ G 1) λV=>bd (psh J V) λW=>some<|.next W)) ((h_ (byteI H) 128).toNat) 0 I) (el (λJ=>some<|.inl (J,d_ G 2))<|λY=>some<|.inr<|.ret Y) else if (decide<|(x1.length:Int)<(d_ (d_ G 1)<|byteI H)) then some (.inr<|.ret (([]:Bt),false)) else bd (slc x1 (d_ G 1)<|d_ (d_ G 1)<|byteI H) λa0=>bd (app I a0) λa1=>some<|.inl (a1,d_ (d_ G 1)<|byteI H)) (el (un2 λL a2=>if (decide<|1000<(L.length:Int)) then some (.ret (([]:Bt),false)) else some (.next (L,a2))) some)) else some (.brk (I,G))) n (([]:Bt),0)) (el (un2 λI G=>some (I,true))<|λa3=>some a3)
def h_P (x1:m_):Option Bool :=
 bd (α:=Bool) (bd (a_Q x1.kind 1 2) λG=>if G then bd (g_n x1.name) λH=>if H then bd (a_Q x1.version 0 7) λI=>if I then if (decide<|(x1.data.length:Int)<=400) then if (x1.kind==1) then some true else if (x1.version==0) then some ((x1.data.length:Int)==0) else some false else some false else some false else some false else some false) (λJ=>some J)
def g_v (n:Nat)(x1:Bt)(x2:Int):Option Int :=
 bd (a_Q x2 0<|h_ (x1.length:Int) 1) λH=>if (!H) then some 0 else bd (C_ (σ:=Int) (ρ:=Int) (λG=>bd (α:=Bool) (if (decide<|(d_ x2 G)<(x1.length:Int)) then bd (idx x1<|d_ x2 G) λI=>bd (idx x1 x2) λJ=>some ((byteI I)==(byteI J)) else some false) (λL=>if L then some (.next<|d_ G 1) else some (.brk G))) n 0) (el (λG=>some G)<|λO=>some O)
def b_L (x1:Int)(x2:Int):Option Int :=
 if (decide<|x2<x1) then some x2 else some x1
def j_w (n:Nat)(x1:Bt):Option Bt :=
 bd (C_ (σ:=Bt×Int) (ρ:=Bt) (un2 λI G=>if (decide<|G<(x1.length:Int)) then bd (α:=Sum (Bt×Int)<|Out (Bt×Int)<|Bt) (bd (g_v n x1 G) λL=>bd (b_L L 127) λJ=>if (decide<|3<=J) then bd (idx x1 G) λO=>bd (app I [mkB (d_ 128 J),O]) λV=>some (.inl (V,d_ G J)) else bd (C_ (σ:=Int) (ρ:=Bt) (λH=>bd (α:=Bool) (if (decide<|H<(x1.length:Int)) then if (decide<|(h_ H G)<127) then bd (g_v n x1 H) λW=>some (decide<|W<3) else some false else some false) (λY=>if Y then some (.next<|d_ H 1) else some (.brk H))) n G) (el (λH=>bd (slc x1 G H) λa0=>bd (psh I<|mkB<|h_ H G) λa1=>bd (app a1 a0) λa2=>some<|.inl (a2,H))<|λa3=>some<|.inr<|.ret a3)) (el (un2 λa4 a5=>some<|.next (a4,a5)) some) else some (.brk (I,G))) n (([]:Bt),0)) (el (un2 λI G=>some I)<|λa6=>some a6)
def d_h (n:Nat)(x1:Int)(x2:Int):Option Bt :=
 bd (α:=Bool) (bd (a_Q x2 1 4) λI=>if (!I) then some true else bd (c_F x2) λJ=>bd (a_Q x1 0<|h_ J 1) λL=>some (!L)) (λO=>if O then some ([]:Bt) else bd (C_ (σ:=Bt×Int) (ρ:=Bt) (un2 λH G=>if (decide<|0<=G) then bd (nn<|U_ 8 G) λY=>bd (psh H<|mkB<|a_9 .i64 x1<|U_ 8 G) λV=>some (.next (V,h_ G 1)) else some (.brk (H,G))) n (([]:Bt),h_ x2 1)) (el (un2 λH G=>some H)<|λW=>some W))
def h_Q (n:Nat)(x1:m_):Option Bt :=
 bd (h_P x1) λI=>if (!I) then some ([]:Bt) else bd (j_w n x1.data) λG=>bd (app [mkB x1.kind,mkB (x1.name.b.length:Int)] x1.name.b) λJ=>bd (psh J<|mkB x1.version) λL=>bd (d_h n (G.length:Int) 2) λO=>bd (app L O) λV=>bd (app V G) λH=>bd (g_q H) λW=>bd (psh H<|mkB W) λY=>some Y
def h_R (x1:Bt)(x2:Bt):Option Bool :=
 if ((x1.length:Int) != (x2.length:Int)) then some false else bd (t_ (σ:=Unit) (ρ:=Bool) (λk10=>(λ(_:Unit)=>bd (idx x1 (k10:Int)) λG=>bd (idx x2 (k10:Int)) λH=>if ((byteI G) != (byteI H)) then some (.ret false) else some (.next ()))) x1.length 0 ()) (el (λ(_:Unit)=>some true)<|λI=>some I)
def h_S (n:Nat)(x1:Bt)(x2:Int):Option (m_×Int×Bool) :=
 bd (a_Q x2 0<|h_ (x1.length:Int) 2) λW=>if (!W) then some ((⟨0,(⟨[]⟩:Str),0,([]:Bt)⟩:m_),x2,false) else bd (idx x1<|d_ x2 1) λG=>if (decide<|(x1.length:Int)<(d_ (d_ (d_ x2 2)<|byteI G) 3)) then some ((⟨0,(⟨[]⟩:Str),0,([]:Bt)⟩:m_),x2,false) else bd (slc x1 (d_ (d_ (d_ x2 2)<|byteI G) 1)<|d_ (d_ (d_ x2 2)<|byteI G) 3) λY=>bd (h_G Y false) λH=>if (decide<|(x1.length:Int)<=(d_ (d_ (d_ (d_ x2 2)<|byteI G) 3) H)) then some ((⟨0,(⟨[]⟩:Str),0,([]:Bt)⟩:m_),x2,false) else bd (slc x1 (d_ (d_ (d_ x2 2)<|byteI G) 3)<|d_ (d_ (d_ (d_ x2 2)<|byteI G) 3) H) λa0=>bd2 (j_v n a0) λI a4=>bd (idx x1 x2) λJ=>bd (slc x1 (d_ x2 2)<|d_ (d_ x2 2)<|byteI G) λL=>bd (idx x1<|d_ (d_ x2 2)<|byteI G) λO=>bd (h_Q n (⟨byteI J,(⟨L⟩:Str),byteI O,I⟩:m_)) λV=>bd (α:=Bool) (if ((V.length:Int)==0) then some true else bd (slc x1 x2<|d_ (d_ (d_ (d_ (d_ x2 2)<|byteI G) 3) H) 1) λa1=>bd (h_R V a1) λa2=>some (!a2)) (λa3=>if a3 then some ((⟨0,(⟨[]⟩:Str),0,([]:Bt)⟩:m_),x2,false) else some ((⟨byteI J,(⟨L⟩:Str),byteI O,I⟩:m_),d_ (d_ (d_ (d_ (d_ x2 2)<|byteI G) 3) H) 1,true))
def f_e (n:Nat)(x1:Bt):Option ((List m_)×Int) :=
 bd (C_ (σ:=(List m_)×Int) (ρ:=(List m_)×Int) (un2 λG H=>bd3 (h_S n x1 H) λI J L=>if (!L) then some (.ret (G,H)) else bd (psh G I) λO=>some<|.next (O,J)) n (([]:List m_),0)) (el (un2 λG H=>none)<|λV=>some V)
def f_f (n:Nat)(x1:Log):Option Bool :=
 bd (a_Q x1.stored 0 (x1.bytes.length:Int)) λG=>if (!G) then some false else bd2 (f_e n x1.bytes) λO H=>bd (slc x1.bytes 0 x1.stored) λI=>bd2 (f_e n I) λV J=>bd (α:=Bool) (if (H==(x1.bytes.length:Int)) then some (J==x1.stored) else some false)<|λL=>some L
def j_x (x1:List w_)(x2:m_):Option (List w_) :=
 bd (α:=Str×Int×Bt) (bd (app ([]:Bt) x2.data) λV=>some (x2.name,x2.version,V)) (un3 λI J L=>bd (t_ (σ:=(List w_)×Bool) (ρ:=List w_) (λO=>un2 λG H=>bd (idx x1 (O:Int)) λW=>bd (α:=(List w_)×Bool) (if (W.name.b != x2.name.b) then bd (idx x1 (O:Int)) λY=>bd (psh G Y) λa0=>some (a0,H) else bd (α:=(List w_)×Bool) (if (x2.kind==1) then bd (psh G (⟨I,J,L⟩:w_)) λa1=>some (a1,true) else some (G,H)) (un2 λa2 a3=>some (a2,a3)))<|un2 λa4 a5=>some<|.next (a4,a5)) x1.length 0 (([]:List w_),false)) (el (un2 λG H=>bd (α:=Bool) (if (x2.kind==1) then some (!H) else some false) (λa6=>bd (α:=List w_) (if a6 then bd (psh G (⟨I,J,L⟩:w_)) λa7=>some a7 else some G)<|λa8=>some a8))<|λa9=>some a9))
def h_T (n:Nat)(x1:Bt):Option (List w_) :=
 bd2 (f_e n x1) λH V=>bd (t_ (σ:=List w_) (ρ:=List w_) (λI=>(λG=>bd (idx H (I:Int)) λJ=>bd (j_x G J) λL=>some<|.next L)) H.length 0 ([]:List w_))<|el (λG=>some G)<|λO=>some O
def h_U (n:Nat)(x1:n_):Option (List w_) :=
 bd (f_f n (⟨x1.log.bytes,x1.log.stored⟩:Log)) λG=>if (!G) then some ([]:List w_) else bd (h_T n x1.log.bytes) λH=>some H
def j_y (x1:D_):Option Bool :=
 bd (t_ (σ:=Unit) (ρ:=Bool) (λk10=>(λ(_:Unit)=>bd (idx x1.versions (k10:Int)) λG=>bd (f_7 G) λH=>if (!H) then some (.ret false) else some (.next ()))) x1.versions.length 0 ()) (el (λ(_:Unit)=>some<|decide<|(x1.versions.length:Int)<=8)<|λI=>some I)
def g_w (n:Nat)(x1:n_):Option Bool :=
 bd (α:=Bool) (bd (j_y (⟨x1.registry.versions⟩:D_)) λI=>if (!I) then some true else bd (f_f n (⟨x1.log.bytes,x1.log.stored⟩:Log)) λJ=>if (!J) then some true else bd (h_T n x1.log.bytes) λL=>some<|decide<|20<(L.length:Int)) (λO=>if O then some false else bd2 (f_e n x1.log.bytes) λG a5=>bd (t_ (σ:=Unit) (ρ:=Bool) (λH=>(λ(_:Unit)=>bd (α:=Bool) (bd (idx G (H:Int)) λV=>if (V.kind==1) then bd (idx G (H:Int)) λW=>if (decide<|(x1.registry.versions.length:Int)<=W.version) then some true else bd (idx G (H:Int)) λY=>bd (idx x1.registry.versions Y.version) λa0=>bd (idx G (H:Int)) λa1=>bd (j_e n a0 a1.data) λa2=>some (!a2) else some false) (λa3=>if a3 then some (.ret false) else some (.next ())))) G.length 0 ())<|el (λ(_:Unit)=>some true)<|λa4=>some a4)
def j_z (n:Nat)(x1:D_):Option Bool :=
 if (decide<|8<(x1.versions.length:Int)) then some false else bd (t_ (σ:=Unit) (ρ:=Bool) (λk10=>(λ(_:Unit)=>bd (idx x1.versions (k10:Int)) λG=>bd (h_K n G) λH=>if (!H) then some (.ret false) else some (.next ()))) x1.versions.length 0 ()) (el (λ(_:Unit)=>some true)<|λI=>some I)
def j_A (n:Nat)(x1:Bt):Option (Bt×Bool) :=
 bd (C_ (σ:=Bt×Int) (ρ:=Bt×Bool) (un2 λI G=>if (decide<|G<(x1.length:Int)) then bd (idx x1 G) λH=>bd (α:=Bool) (if ((byteI H)==0) then some true else if ((byteI H)==128) then some true else some ((d_ G 1)==(x1.length:Int))) (λO=>if O then some (.ret (([]:Bt),false)) else bd (α:=Sum (Bt×Int)<|Out (Bt×Int)<|Bt×Bool) (if (decide<|(byteI H)<128) then if (decide<|(h_ (x1.length:Int)<|d_ G 1)<(byteI H)) then some (.inr<|.ret (([]:Bt),false)) else bd (slc x1 (d_ G 1)<|d_ (d_ G 1)<|byteI H) λV=>bd (app I V) λW=>some (.inl (W,d_ (d_ G 1)<|byteI H)) else bd (t_ (σ:=Bt) (ρ:=Bt×Bool) (λa4=>(λJ=>bd (idx x1<|d_ G 1) λY=>bd (psh J Y) λa0=>some<|.next a0)) ((h_ (byteI H) 128).toNat) 0 I) (el (λJ=>some<|.inl (J,d_ (d_ G 1) 1))<|λa1=>some<|.inr<|.ret a1)) (el (un2 λL a2=>if (decide<|1000<(L.length:Int)) then some (.ret (([]:Bt),false)) else some (.next (L,a2))) some)) else some (.brk (I,G))) n (([]:Bt),0)) (el (un2 λI G=>some (I,true))<|λa3=>some a3)
def h_V (n:Nat)(x1:m_):Option Bool :=
 bd (α:=Bool) (bd (f_8 n x1.name) λG=>if (!G) then some true else bd (c_4 x1.version 0 7) λH=>if (!H) then some true else some (decide<|400<(x1.data.length:Int))) (λI=>if I then some false else bd (α:=Bool) (if (x1.kind==1) then some true else if (x1.kind==2) then if (x1.version==0) then some ((x1.data.length:Int)==0) else some false else some false) (λJ=>some J))
def g_x (x1:Bt)(x2:Int):Option Bool :=
 bd (α:=Bool) (if (decide<|(d_ x2 2)<(x1.length:Int)) then bd (idx x1 x2) λG=>bd (idx x1<|d_ x2 1) λH=>if ((byteI G)==(byteI H)) then bd (idx x1 x2) λI=>bd (idx x1<|d_ x2 2) λJ=>some ((byteI I)==(byteI J)) else some false else some false) (λL=>some L)
def j_B (n:Nat)(x1:Bt)(x2:Int):Option Int :=
 bd (α:=Bool) (if (decide<|x2<0) then some true else some (decide<|(x1.length:Int)<=x2)) (λH=>if H then some 0 else bd (C_ (σ:=Int) (ρ:=Int) (λG=>bd (α:=Bool) (if (decide<|(d_ x2 G)<(x1.length:Int)) then bd (idx x1<|d_ x2 G) λI=>bd (idx x1 x2) λJ=>some ((byteI I)==(byteI J)) else some false) (λL=>if L then some (.next<|d_ G 1) else some (.brk G))) n 1) (el (λG=>some G)<|λO=>some O))
def g_y (x1:Int)(x2:Int):Option Bool :=
 some (decide<|x1<x2)
def j_C (x2:Int)(x3:List Int):Option Int :=
 bd (t_ (σ:=Int) (ρ:=Int) (λI=>(λG=>bd (idx x3 (I:Int)) λH=>bd (g_y H G) λJ=>bd (α:=Int) (if J then some H else some G)<|λL=>some<|.next L)) x3.length 0 x2) (el (λG=>some G)<|λO=>some O)
def d_Y (x1:Int)(x2:Int):Option Int :=
 bd (j_C x1 [x2]) λG=>some G
def j_D (n:Nat)(x1:Bt):Option Bt :=
 bd (C_ (σ:=Bt×Int) (ρ:=Bt) (un2 λI G=>if (decide<|G<(x1.length:Int)) then bd (α:=Sum (Bt×Int)<|Out (Bt×Int)<|Bt) (bd (g_x x1 G) λL=>if L then bd (j_B n x1 G) λO=>bd (d_Y O 127) λJ=>bd (idx x1 G) λV=>bd (app I [mkB (d_ 128 J),V]) λW=>some (.inl (W,d_ G J)) else bd (C_ (σ:=Int) (ρ:=Bt) (λH=>bd (α:=Bool) (if (decide<|H<(x1.length:Int)) then if (decide<|(h_ H G)<127) then bd (g_x x1 H) λY=>some (!Y) else some false else some false) (λa0=>if a0 then some (.next<|d_ H 1) else some (.brk H))) n<|d_ G 1) (el (λH=>bd (psh I<|mkB<|h_ H G) λa1=>bd (slc x1 G H) λa2=>bd (app a1 a2) λa3=>some<|.inl (a3,H))<|λa4=>some<|.inr<|.ret a4)) (el (un2 λa5 a6=>some<|.next (a5,a6)) some) else some (.brk (I,G))) n (([]:Bt),0)) (el (un2 λI G=>some I)<|λa7=>some a7)
def j_E (n:Nat)(x1:m_):Option Bt :=
 bd (h_V n x1) λI=>if (!I) then some ([]:Bt) else bd (j_D n x1.data) λG=>bd (app [mkB x1.kind,mkB (x1.name.b.length:Int)] x1.name.b) λJ=>bd (app J [mkB x1.version,mkB<|a_9 .i64 (G.length:Int) 8,mkB (G.length:Int)]) λL=>bd (app L G) λH=>bd (f_a H) λO=>bd (psh H<|mkB O) λV=>some V
def f_g (n:Nat)(x1:Bt)(x2:Int):Option (m_×Int×Bool) :=
 bd (α:=Bool) (if (decide<|x2<0) then some true else if (decide<|(x1.length:Int)<x2) then some true else some (decide<|(h_ (x1.length:Int) x2)<2)) (λY=>if Y then some ((⟨0,(⟨[]⟩:Str),0,([]:Bt)⟩:m_),x2,false) else bd (slc x1 x2 (x1.length:Int)) λG=>bd (idx G 1) λH=>if (decide<|(G.length:Int)<(d_ (byteI H) 6)) then some ((⟨0,(⟨[]⟩:Str),0,([]:Bt)⟩:m_),x2,false) else bd (idx G<|d_ (byteI H) 3) λI=>bd (idx G<|d_ (byteI H) 4) λJ=>if (decide<|(G.length:Int)<(d_ (d_ (byteI H) 6)<|a_n .i64 (· ||| ·) (b_d .i64 (byteI I) 8)<|byteI J)) then some ((⟨0,(⟨[]⟩:Str),0,([]:Bt)⟩:m_),x2,false) else bd (mk0 (0:UInt8)<|a_n .i64 (· ||| ·) (b_d .i64 (byteI I) 8)<|byteI J) λa0=>bd (slc G (d_ (byteI H) 5) (G.length:Int)) λa1=>bd2 (j_A n<|cpy a0 a1) λL a2=>bd (idx G 0) λO=>bd (slc G 2<|d_ 2<|byteI H) λV=>bd (idx G<|d_ (byteI H) 2) λW=>bd (α:=Bool) (if (!a2) then some true else bd (h_V n (⟨byteI O,(⟨V⟩:Str),byteI W,L⟩:m_)) λa3=>if (!a3) then some true else bd (slc G 0<|d_ (d_ (byteI H) 6)<|a_n .i64 (· ||| ·) (b_d .i64 (byteI I) 8)<|byteI J) λa4=>bd (j_E n (⟨byteI O,(⟨V⟩:Str),byteI W,L⟩:m_)) λa5=>bd (f_d a5 a4) λa6=>some (!a6)) (λa7=>if a7 then some ((⟨0,(⟨[]⟩:Str),0,([]:Bt)⟩:m_),x2,false) else some ((⟨byteI O,(⟨V⟩:Str),byteI W,L⟩:m_),d_ (d_ (d_ x2<|byteI H) 6)<|a_n .i64 (· ||| ·) (b_d .i64 (byteI I) 8)<|byteI J,true)))
def k_Z (n:Nat)(x1:Log):Option Bool :=
 bd (c_4 x1.stored 0 (x1.bytes.length:Int)) λJ=>if (!J) then some false else bd (C_ (σ:=Bool×Int) (ρ:=Bool) (un2 λG H=>if (decide<|H<(x1.bytes.length:Int)) then bd3 (f_g n x1.bytes H) λW I L=>if (!L) then some (.ret false) else bd (α:=Bool) (if G then some true else some (I==x1.stored)) (λO=>some<|.next (O,I)) else some (.brk (G,H))) n (x1.stored==0,0)) (el (un2 λG H=>if (!G) then some false else some true)<|λV=>some V)
def h_W (n:Nat)(x1:Log):Option Bool :=
 k_Z n x1
def g_z (n:Nat)(x1:Bt):Option ((List m_)×Int) :=
 bd (C_ (σ:=(List m_)×Int) (ρ:=(List m_)×Int) (un2 λG H=>bd3 (f_g n x1 H) λI J L=>if (!L) then some (.ret (G,H)) else bd (psh G I) λO=>some<|.next (O,J)) n (([]:List m_),0)) (el (un2 λG H=>none)<|λV=>some V)
def l_0 (x1:w_)(x2:m_):Option Bool :=
 some (x1.name.b==x2.name.b)
def j_F (x1:List w_)(G:m_):Option Int :=
 bd (t_ (σ:=Unit) (ρ:=Int) (λk10=>(λ(_:Unit)=>bd (idx x1 (k10:Int)) λH=>bd (l_0 H G) λI=>if I then some (.ret (k10:Int)) else some (.next ()))) x1.length 0 ()) (el (λ(_:Unit)=>some (-1))<|λJ=>some J)
def j_G (n:Nat)(x1:n_):Option (List w_) :=
 bd2 (g_z n x1.log.bytes) λJ a6=>bd (t_ (σ:=List w_) (ρ:=List w_) (λL=>(λG=>bd (idx J (L:Int)) λH=>bd (j_F G H) λI=>bd (α:=Bool) (if (H.kind==1) then some (decide<|0<=I) else some false) (λO=>bd (α:=List w_) (if O then bd (upd G I (⟨H.name,H.version,H.data⟩:w_)) λV=>some V else bd (α:=List w_) (if (H.kind==1) then bd (psh G (⟨H.name,H.version,H.data⟩:w_)) λW=>some W else bd (α:=List w_) (if (decide<|0<=I) then bd (slc G 0 I) λY=>bd (slc G (d_ I 1) (G.length:Int)) λa0=>bd (app Y a0) λa1=>some a1 else some G) (λa2=>some a2)) (λa3=>some a3))<|λa4=>some<|.next a4))) J.length 0 ([]:List w_))<|el (λG=>some G)<|λa5=>some a5
def l_1 (x1:D_)(x2:Int):Option Bool :=
 bd (α:=Bool) (if (decide<|0<=x2) then some (decide<|x2<(x1.versions.length:Int)) else some false) (λG=>some G)
def g_A (n:Nat)(x1:n_):Option Bool :=
 bd (α:=Bool) (bd (j_z n (⟨x1.registry.versions⟩:D_)) λI=>if (!I) then some true else bd (h_W n (⟨x1.log.bytes,x1.log.stored⟩:Log)) λJ=>if (!J) then some true else bd (j_G n x1) λL=>some<|decide<|20<(L.length:Int)) (λO=>if O then some false else bd2 (g_z n x1.log.bytes) λH a3=>bd (t_ (σ:=Unit) (ρ:=Bool) (λV=>(λ(_:Unit)=>bd (idx H (V:Int)) λG=>bd (α:=Bool) (if (G.kind==1) then bd (l_1 (⟨x1.registry.versions⟩:D_) G.version) λW=>if (!W) then some true else bd (idx x1.registry.versions G.version) λY=>bd (j_u n Y G.data) λa0=>some (!a0) else some false) (λa1=>if a1 then some (.ret false) else some (.next ())))) H.length 0 ())<|el (λ(_:Unit)=>some true)<|λa2=>some a2)
def l_2 (x1:b_):Option b_ :=
 bd (app ([]:Bt) x1.bytes) λG=>bd (app ([]:List Str) x1.names) λH=>bd (app ([]:List Int) x1.tags) λI=>bd (app ([]:List Int) x1.kids) λJ=>some (⟨x1.name,x1.kind,x1.size,x1.little,G,H,I,J⟩:b_)
def h_X (x1:c_):Option c_ :=
 bd (t_ (σ:=List b_) (ρ:=c_) (λH=>(λG=>bd (idx x1.rules (H:Int)) λI=>bd (l_2 I) λJ=>bd (psh G J) λL=>some<|.next L)) x1.rules.length 0 ([]:List b_)) (el (λG=>some (⟨G⟩:c_))<|λO=>some O)
def j_H (x1:D_):Option D_ :=
 bd (t_ (σ:=List c_) (ρ:=D_) (λH=>(λG=>bd (idx x1.versions (H:Int)) λI=>bd (h_X I) λJ=>bd (psh G J) λL=>some<|.next L)) x1.versions.length 0 ([]:List c_)) (el (λG=>some (⟨G⟩:D_))<|λO=>some O)
def h_Y (x1:Log):Option Log :=
 bd (app ([]:Bt) x1.bytes) λG=>some (⟨G,x1.stored⟩:Log)
def f_h (x1:n_):Option n_ :=
 bd (j_H (⟨x1.registry.versions⟩:D_)) λH=>bd (h_Y (⟨x1.log.bytes,x1.log.stored⟩:Log)) λG=>some (⟨(⟨H.versions⟩:D_),(⟨G.bytes,G.stored⟩:Log)⟩:n_)
def j_I (x1:b_):Option b_ :=
 bd (app ([]:Bt) x1.bytes) λG=>bd (app ([]:List Str) x1.names) λH=>bd (app ([]:List Int) x1.tags) λI=>bd (app ([]:List Int) x1.kids) λJ=>some (⟨x1.name,x1.kind,x1.size,x1.little,G,H,I,J⟩:b_)
def j_J (x1:c_):Option c_ :=
 bd (mk0 () (x1.rules.length:Int)) λV=>bd (t_ (σ:=List b_) (ρ:=c_) (λH=>(λG=>bd (idx x1.rules (H:Int)) λI=>bd (j_I I) λJ=>bd (psh G J) λL=>some<|.next L)) x1.rules.length 0 ([]:List b_))<|el (λG=>some (⟨G⟩:c_))<|λO=>some O
def j_K (x1:D_):Option D_ :=
 bd (mk0 ()<|d_ (x1.versions.length:Int) 1) λV=>bd (t_ (σ:=List c_) (ρ:=D_) (λH=>(λG=>bd (idx x1.versions (H:Int)) λI=>bd (j_J I) λJ=>bd (psh G J) λL=>some<|.next L)) x1.versions.length 0 ([]:List c_))<|el (λG=>some (⟨G⟩:D_))<|λO=>some O
def g_B (x1:Log):Option Log :=
 bd (app ([]:Bt) x1.bytes) λG=>some (⟨G,x1.stored⟩:Log)
def h_Z (x1:n_):Option n_ :=
 bd (j_K (⟨x1.registry.versions⟩:D_)) λH=>bd (g_B (⟨x1.log.bytes,x1.log.stored⟩:Log)) λG=>some (⟨(⟨H.versions⟩:D_),(⟨G.bytes,G.stored⟩:Log)⟩:n_)
def i_0 (n:Nat)(x1:Log)(x2:m_):Option (Log×Bool) :=
 bd (h_Y x1) λG=>bd (α:=Bool) (bd (f_f n x1) λH=>if (!H) then some true else bd (h_P x2) λI=>some (!I)) (λJ=>if J then some (G,false) else bd (h_Q n x2) λL=>bd (app G.bytes L) λO=>some ((⟨O,G.stored⟩:Log),true))
def i_1 (n:Nat)(x1:n_)(x2:Str)(x3:Int)(x4:Bt):Option (n_×Bool) :=
 bd (f_h x1) λH=>bd2 (i_0 n (⟨x1.log.bytes,x1.log.stored⟩:Log) (⟨1,x2,x3,x4⟩:m_)) λG I=>bd (α:=Bool) (bd (g_w n x1) λJ=>if (!J) then some true else if (!I) then some true else bd (g_w n (⟨(⟨H.registry.versions⟩:D_),(⟨G.bytes,G.stored⟩:Log)⟩:n_)) λL=>some (!L)) (λO=>if O then bd (f_h x1) λV=>some (V,false) else some ((⟨(⟨H.registry.versions⟩:D_),(⟨G.bytes,G.stored⟩:Log)⟩:n_),true))
def j_L (x1:List w_)(x2:Str):Option Int :=
 bd (t_ (σ:=Unit) (ρ:=Int) (λk10=>(λ(_:Unit)=>bd (idx x1 (k10:Int)) λG=>if (G.name.b==x2.b) then some (.ret (k10:Int)) else some (.next ()))) x1.length 0 ()) (el (λ(_:Unit)=>some (-1))<|λH=>some H)
def i_2 (n:Nat)(x1:n_)(x2:Str):Option (n_×Bool) :=
 bd (f_h x1) λG=>bd (α:=Bool) (bd (g_w n x1) λI=>if (!I) then some true else bd (h_U n x1) λJ=>bd (j_L J x2) λL=>some<|decide<|L<0) (λO=>if O then some (G,false) else bd2 (i_0 n (⟨x1.log.bytes,x1.log.stored⟩:Log) (⟨2,x2,0,([]:Bt)⟩:m_)) λH V=>some ((⟨(⟨G.registry.versions⟩:D_),(⟨H.bytes,H.stored⟩:Log)⟩:n_),V))
end Go.Vw
namespace Go.Vw
open Go.RowKit Dat
structure Change where
 path:Str
 part:Val
deriving Inhabited
instance:Dat Change:=Dat.via<|λr=>(r.path,r.part)
end Go.Vw
namespace Go.Vw
def i_k (x1:Bt):Option Bool :=
 some (decide<|1048576<(x1.length:Int))
def i_l (n:Nat)(x1:Bt):Option j_ :=
 bd (C_ (σ:=Int×Int) (ρ:=j_) (un2 λH G=>bd (α:=Bool) (if (decide<|G<(x1.length:Int)) then some (decide<|G<4000) else some false) (λI=>if I then bd (idx x1 G) λJ=>some (.next (a_n .i64 (· &&& ·) (d_ (d_ (U_ H 137)<|byteI J) 11) 1073741823,d_ G 1)) else some (.brk (H,G)))) n (d_ 193017 (x1.length:Int),0)) (el (un2 λH G=>some (⟨x1,0,H⟩:j_))<|λL=>some L)
def d_C (x1:j_):Option (Int×Int×Int) :=
 bd (α:=Int×Int) (if (decide<|x1.i<(x1.b.length:Int)) then bd (idx x1.b x1.i) λG=>some (a_n .i64 (· &&& ·) (d_ (a_n .i64 (· &&& ·) (a_n .i64 (· ^^^ ·) (a_9 .i64 (d_ (U_ x1.h 6364136223846793005) 1442695040888963407) 33)<|a_9 .i64 (d_ (U_ x1.h 6364136223846793005) 1442695040888963407) 47) 255)<|byteI G) 255,d_ x1.i 1) else some (a_n .i64 (· &&& ·) (a_n .i64 (· ^^^ ·) (a_9 .i64 (d_ (U_ x1.h 6364136223846793005) 1442695040888963407) 33)<|a_9 .i64 (d_ (U_ x1.h 6364136223846793005) 1442695040888963407) 47) 255,x1.i)) (un2 λH I=>some (H,I,d_ (U_ x1.h 6364136223846793005) 1442695040888963407))
def a_0 (x1:j_)(x2:Int):Option (Int×Int×Int) :=
 if (decide<|x2<=0) then some (0,x1.i,x1.h) else if (decide<|x2<=256) then bd3 (d_C x1) λG H I=>bd (nz x2) λa3=>some (a_d G x2,H,I) else bd3 (d_C x1) λJ L O=>bd3 (d_C (⟨x1.b,L,O⟩:j_)) λV W Y=>bd3 (d_C (⟨x1.b,W,Y⟩:j_)) λa0 a1 a2=>bd (nz x2) λa4=>some (a_d (d_ (d_ (U_ J 65536)<|U_ V 256) a0) x2,a1,a2)
def c_T (x1:j_)(x2:List Str):Option (Str×Int×Int) :=
 bd3 (a_0 x1 (x2.length:Int)) λG H I=>bd (idx x2 G) λJ=>some (J,H,I)
def b_U (x1:j_)(x2:Int):Option (Bool×Int×Int) :=
 bd3 (a_0 x1 x2) λG H I=>some (G==0,H,I)
def f_r (x1:j_)(x2:Int):Option (Bt×Int×Int) :=
 bd (t_ (σ:=Bt×Int×Int) (ρ:=Bt×Int×Int) (λY=>un3 λG H I=>bd3 (d_C (⟨x1.b,H,I⟩:j_)) λJ L O=>bd (psh G<|mkB J) λV=>some<|.next (V,L,O)) x2.toNat 0 (([]:Bt),x1.i,x1.h)) (el (un3 λG H I=>some (G,H,I))<|λW=>some W)
def e_4 (x1:j_)(x2:List Int):Option (Int×Int×Int) :=
 bd3 (a_0 x1 (x2.length:Int)) λG H I=>bd (idx x2 G) λJ=>some (J,H,I)
def e_5 (x1:j_)(x2:c_):Option (Int×Int×Int) :=
 bd (t_ (σ:=List Int) (ρ:=Int×Int×Int) (λH=>(λG=>bd (idx x2.rules (H:Int)) λI=>bd (α:=List Int) (if (I.kind==1) then bd (psh G (H:Int)) λJ=>some J else some G)<|λL=>some<|.next L)) x2.rules.length 0 ([]:List Int)) (el (λG=>bd3 (e_4 x1 G) λO V W=>some (O,V,W))<|λY=>some Y)
def d_j (n:Nat)(x1:j_)(x2:c_)(x3:Int):Option (b_×Int×Int) :=
 bd3 (c_T x1 [(⟨[97]⟩:Str),(⟨[105,116,101,109]⟩:Str),(⟨[98]⟩:Str),(⟨[104,101,97,100]⟩:Str),(⟨[120]⟩:Str)]) λa6 G H=>bd (d_X n (x2.rules.length:Int)) λa7=>bd (cat a6 a7) λa8=>bd (α:=Sum (Int×Int×Int×Bool×Bt×(List Str)×(List Int)×(List Int))<|b_×Int×Int) (if (x3==1) then bd3 (a_0 (⟨x1.b,G,H⟩:j_) 3) λa3 a4 a5=>bd (α:=Int×Int×Bool) (if (decide<|1<(d_ 1 a3)) then bd3 (b_U (⟨x1.b,a4,a5⟩:j_) 2) λa9 aa ab=>some (aa,ab,a9) else some (a4,a5,false)) (un3 λad ae af=>some<|.inl (ad,ae,d_ 1 a3,af,([]:Bt),([]:List Str),([]:List Int),([]:List Int))) else bd (α:=Sum (Int×Int×Int×Bt×(List Str)×(List Int)×(List Int))<|Sum (Int×Int×Int×Bool×Bt×(List Str)×(List Int)×(List Int))<|b_×Int×Int) (if (x3==2) then bd3 (a_0 (⟨x1.b,G,H⟩:j_) 3) λah ai aj=>bd3 (f_r (⟨x1.b,ai,aj⟩:j_)<|d_ 1 ah) λak al am=>some (.inl (al,am,0,ak,([]:List Str),([]:List Int),([]:List Int))) else bd (α:=Sum (Int×Int×Int×Bt×(List Str)×(List Int)×(List Int))<|Sum (Int×Int×Int×Bt×(List Str)×(List Int)×(List Int))<|Sum (Int×Int×Int×Bool×Bt×(List Str)×(List Int)×(List Int))<|b_×Int×Int) (if (x3==3) then bd3 (a_0 (⟨x1.b,G,H⟩:j_) 4) λan ap aq=>some (.inl (ap,aq,d_ 1 an,([]:Bt),([]:List Str),([]:List Int),([]:List Int))) else bd (α:=Sum (Int×Int×Bt×(List Str)×(List Int)×(List Int))<|Sum (Int×Int×Int×Bt×(List Str)×(List Int)×(List Int))<|Sum (Int×Int×Int×Bt×(List Str)×(List Int)×(List Int))<|Sum (Int×Int×Int×Bool×Bt×(List Str)×(List Int)×(List Int))<|b_×Int×Int) (if (x3==4) then bd3 (e_5 (⟨x1.b,G,H⟩:j_) x2) λar au av=>some (.inl (au,av,([]:Bt),([]:List Str),([]:List Int),[ar])) else bd (α:=Sum (Int×Int×Bt×(List Str)×(List Int)×(List Int))<|Sum (Int×Int×Bt×(List Str)×(List Int)×(List Int))<|Sum (Int×Int×Int×Bt×(List Str)×(List Int)×(List Int))<|Sum (Int×Int×Int×Bt×(List Str)×(List Int)×(List Int))<|Sum (Int×Int×Int×Bool×Bt×(List Str)×(List Int)×(List Int))<|b_×Int×Int) (if (x3==5) then bd3 (e_5 (⟨x1.b,G,H⟩:j_) x2) λaw ax ay=>bd3 (a_0 (⟨x1.b,ax,ay⟩:j_) (x2.rules.length:Int)) λaz aA aB=>some (.inl (aA,aB,([]:Bt),([]:List Str),([]:List Int),[aw,az])) else bd (α:=Sum (Int×Int×Bt×(List Str)×(List Int)×(List Int))<|Sum (Int×Int×Bt×(List Str)×(List Int)×(List Int))<|Sum (Int×Int×Bt×(List Str)×(List Int)×(List Int))<|Sum (Int×Int×Int×Bt×(List Str)×(List Int)×(List Int))<|Sum (Int×Int×Int×Bt×(List Str)×(List Int)×(List Int))<|Sum (Int×Int×Int×Bool×Bt×(List Str)×(List Int)×(List Int))<|b_×Int×Int) (if (x3==6) then bd3 (a_0 (⟨x1.b,G,H⟩:j_) 3) λaC aD aE=>bd (C_ (σ:=Int×Int×Int×(List Str)×(List Int)) (ρ:=b_×Int×Int) (un5 λI L O V W=>if (decide<|0<I) then bd3 (c_T (⟨x1.b,L,O⟩:j_) [(⟨[112]⟩:Str),(⟨[113]⟩:Str),(⟨[114]⟩:Str)]) λaF aG aH=>bd (d_X n I) λaI=>bd (cat aF aI) λaJ=>bd (psh V aJ) λaK=>bd3 (a_0 (⟨x1.b,aG,aH⟩:j_) (x2.rules.length:Int)) λaL aM aN=>bd (psh W aL) λaO=>some (.next (h_ I 1,aM,aN,aK,aO)) else some (.brk (I,L,O,V,W))) n (d_ 1 aC,aD,aE,([]:List Str),([]:List Int))) (el (un5 λI L O V W=>some<|.inl (L,O,([]:Bt),V,([]:List Int),W))<|λaP=>some<|.inr<|.inr<|.inr<|.inr<|.inr<|.inr aP) else bd (α:=Sum (Int×Int×Bt×(List Int)×(List Int))<|Sum (Int×Int×Bt×(List Str)×(List Int)×(List Int))<|Sum (Int×Int×Bt×(List Str)×(List Int)×(List Int))<|Sum (Int×Int×Bt×(List Str)×(List Int)×(List Int))<|Sum (Int×Int×Int×Bt×(List Str)×(List Int)×(List Int))<|Sum (Int×Int×Int×Bt×(List Str)×(List Int)×(List Int))<|Sum (Int×Int×Int×Bool×Bt×(List Str)×(List Int)×(List Int))<|b_×Int×Int) (if (x3==7) then bd3 (e_5 (⟨x1.b,G,H⟩:j_) x2) λaQ aR aS=>bd3 (a_0 (⟨x1.b,aR,aS⟩:j_) 3) λaT aU aV=>bd (C_ (σ:=Int×Int×Int×(List Int)×(List Int)) (ρ:=b_×Int×Int) (un5 λY a0 a1 J a2=>if (decide<|0<Y) then bd3 (a_0 (⟨x1.b,a0,a1⟩:j_) 4) λaW aX aY=>bd (psh J<|d_ (U_ 4 (J.length:Int)) aW) λaZ=>bd3 (a_0 (⟨x1.b,aX,aY⟩:j_) (x2.rules.length:Int)) λb0 b3 b4=>bd (psh a2 b0) λb5=>some (.next (h_ Y 1,b3,b4,aZ,b5)) else some (.brk (Y,a0,a1,J,a2))) n (d_ 1 aT,aU,aV,([]:List Int),[aQ])) (el (un5 λY a0 a1 J a2=>some<|.inl (a0,a1,([]:Bt),J,a2))<|λb6=>some<|.inr<|.inr<|.inr<|.inr<|.inr<|.inr<|.inr b6) else bd (α:=Bool) (if (x3==8) then some (x3==8) else some (x3==9)) (λb7=>bd (α:=Int×Int×Bt×(List Int)) (if b7 then bd3 (a_0 (⟨x1.b,G,H⟩:j_) (x2.rules.length:Int)) λb8 b9 ba=>some (b9,ba,([]:Bt),[b8]) else bd (α:=Int×Int×Bt) (if (x3==10) then bd3 (e_4 (⟨x1.b,G,H⟩:j_) [0,10,59,255]) λbb bc be=>some (bc,be,[mkB bb]) else some (G,H,([]:Bt))) (un3 λbf bg bh=>some (bf,bg,bh,([]:List Int))))<|un4 λbi bj bk bm=>some<|.inl (bi,bj,bk,([]:List Int),bm))) (el (un5 λbn bo bp bq br=>some<|.inl (bn,bo,bp,([]:List Str),bq,br)) some)) (el (un6 λbs bt bu bv bw bx=>some<|.inl (bs,bt,bu,bv,bw,bx)) some)) (el (un6 λbz bA bB bC bD bE=>some<|.inl (bz,bA,bB,bC,bD,bE)) some)) (el (un6 λbF bG bH bI bJ bK=>some<|.inl (bF,bG,0,bH,bI,bJ,bK)) some)) (el (un7 λbL bM bN bO bP bR bS=>some<|.inl (bL,bM,bN,bO,bP,bR,bS)) some)) (el (un7 λbT bU bV bW bX bY bZ=>some<|.inl (bT,bU,bV,false,bW,bX,bY,bZ)) some))<|el (un8 λc0 c1 c2 c3 c4 c5 c6 c7=>some ((⟨a8,x3,c2,c3,c4,c5,c6,c7⟩:b_),c0,c1)) some
def i_m (n:Nat)(x1:j_):Option (c_×Int×Int) :=
 bd3 (d_j n x1 (⟨([]:List b_)⟩:c_) 1) λL O V=>bd (psh ([]:List b_) L) λW=>bd3 (a_0 (⟨x1.b,O,V⟩:j_) 6) λY a0 a1=>bd (C_ (σ:=Int×Int×Int×(List b_)) (ρ:=c_×Int×Int) (un4 λH I J G=>if (decide<|0<H) then bd3 (a_0 (⟨x1.b,I,J⟩:j_) 10) λa2 a3 a4=>bd3 (d_j n (⟨x1.b,a3,a4⟩:j_) (⟨G⟩:c_)<|d_ 1 a2) λa5 a6 a7=>bd (psh G a5) λa8=>some (.next (h_ H 1,a6,a7,a8)) else some (.brk (H,I,J,G))) n (Y,a0,a1,W))<|el (un4 λH I J G=>some ((⟨G⟩:c_),I,J))<|λa9=>some a9
structure j_T where
 spec_l9Make:j_->c_->Int->Int->Option (Val×Int×Int)
def i_n (n:Nat)(rec:j_T)(x1:j_)(x2:c_)(x3:Int)(x4:Int):Option (Val×Int×Int) :=
 bd (idx x2.rules x3) λG=>bd (α:=Sum (Int×Int×Int×Bt×(List Val))<|Val×Int×Int) (if (G.kind==1) then bd (c_F G.size) λa7=>bd (b_L a7 70000) λa8=>bd3 (a_0 x1 a8) λa9 aa ab=>some (.inl (aa,ab,a9,([]:Bt),([]:List Val))) else bd (α:=Sum (Int×Int×Int×Bt×(List Val))<|Sum (Int×Int×Int×Bt×(List Val))<|Val×Int×Int) (if (G.kind==3) then bd3 (f_r x1 G.size) λad ae af=>some (.inl (ae,af,0,ad,([]:List Val))) else bd (α:=Bool) (if (G.kind==4) then some (G.kind==4) else some (G.kind==10)) (λah=>bd (α:=Sum (Int×Int×Int×Bt×(List Val))<|Sum (Int×Int×Int×Bt×(List Val))<|Sum (Int×Int×Int×Bt×(List Val))<|Val×Int×Int) (if ah then bd (b_L x4 6) λai=>bd3 (a_0 x1<|d_ ai 1) λaj ak al=>bd3 (f_r (⟨x1.b,ak,al⟩:j_) aj) λO V W=>bd (α:=Bool×Int×Int) (if (G.kind==10) then if (decide<|0<(O.length:Int)) then bd3 (b_U (⟨x1.b,V,W⟩:j_) 2) λam an ap=>some (am,an,ap) else some (false,V,W) else some (false,V,W)) (un3 λaq a2 a3=>bd (α:=Int×Int×Bt) (if aq then bd (idx G.bytes 0) λar=>bd3 (e_4 (⟨x1.b,a2,a3⟩:j_) [byteI ar,92]) λau av aw=>bd (upd O 0<|mkB au) λax=>some (av,aw,ax) else some (a2,a3,O))<|un3 λay az aA=>some<|.inl (ay,az,0,aA,([]:List Val))) else bd (α:=Sum (Int×Int×Int×(List Val))<|Sum (Int×Int×Int×Bt×(List Val))<|Sum (Int×Int×Int×Bt×(List Val))<|Sum (Int×Int×Int×Bt×(List Val))<|Val×Int×Int) (if (G.kind==5) then bd (b_L x4 3) λaB=>bd3 (a_0 x1<|d_ aB 1) λaC aD aE=>bd (C_ (σ:=Int×Int×Int×(List Val)) (ρ:=Val×Int×Int) (un4 λH I J L=>if (decide<|0<H) then bd (idx G.kids 1) λaF=>bd3 (rec.spec_l9Make (⟨x1.b,I,J⟩:j_) x2 aF<|b_O x4 2) λaG aH aI=>bd (psh L aG) λaJ=>some (.next (h_ H 1,aH,aI,aJ)) else some (.brk (H,I,J,L))) n (aC,aD,aE,([]:List Val))) (el (un4 λH I J L=>some<|.inl (I,J,0,L))<|λaK=>some<|.inr<|.inr<|.inr<|.inr aK) else bd (α:=Sum (Int×Int×Int×(List Val))<|Sum (Int×Int×Int×(List Val))<|Sum (Int×Int×Int×Bt×(List Val))<|Sum (Int×Int×Int×Bt×(List Val))<|Sum (Int×Int×Int×Bt×(List Val))<|Val×Int×Int) (if (G.kind==6) then bd (t_ (σ:=Int×Int×(List Val)) (ρ:=Val×Int×Int) (λaL=>un3 λY a0 a1=>bd (idx G.kids (aL:Int)) λaM=>bd3 (rec.spec_l9Make (⟨x1.b,Y,a0⟩:j_) x2 aM<|b_O x4 2) λaN aO aP=>bd (psh a1 aN) λaQ=>some<|.next (aO,aP,aQ)) G.kids.length 0 (x1.i,x1.h,([]:List Val))) (el (un3 λY a0 a1=>some<|.inl (Y,a0,0,a1))<|λaR=>some<|.inr<|.inr<|.inr<|.inr<|.inr aR) else bd (α:=Int×Int×Int×(List Val)) (if (G.kind==7) then bd3 (a_0 x1 (G.tags.length:Int)) λa4 aS aT=>bd (idx G.tags a4) λaU=>bd (idx G.kids<|d_ a4 1) λaV=>bd3 (rec.spec_l9Make (⟨x1.b,aS,aT⟩:j_) x2 aV<|b_O x4 2) λaW aX aY=>some (aX,aY,aU,[aW]) else bd (α:=Int×Int×(List Val)) (if (G.kind==8) then bd3 (b_U x1 2) λaZ a5 a6=>bd (α:=Int×Int×(List Val)) (if aZ then bd (idx G.kids 0) λb0=>bd3 (rec.spec_l9Make (⟨x1.b,a5,a6⟩:j_) x2 b0<|b_O x4 2) λb3 b4 b5=>some (b4,b5,[b3]) else some (a5,a6,([]:List Val))) (un3 λb6 b7 b8=>some (b6,b7,b8)) else bd (α:=Int×Int×(List Val)) (if (G.kind==9) then bd (idx G.kids 0) λb9=>bd3 (rec.spec_l9Make x1 x2 b9<|b_O x4 2) λba bb bc=>some (bb,bc,[ba]) else some (x1.i,x1.h,([]:List Val))) (un3 λbe bf bg=>some (be,bf,bg))) (un3 λbh bi bj=>some (bh,bi,0,bj))) (un4 λbk bm bn bo=>some<|.inl (bk,bm,bn,bo))) (el (un4 λbp bq br bs=>some<|.inl (bp,bq,br,bs)) some)) (el (un4 λbt bu bv bw=>some<|.inl (bt,bu,bv,([]:Bt),bw)) some))<|el (un5 λbx bz bA bB bC=>some<|.inl (bx,bz,bA,bB,bC)) some)) (el (un5 λbD bE bF bG bH=>some<|.inl (bD,bE,bF,bG,bH)) some))<|el (un5 λbI bJ bK bL bM=>some ((⟨bK,bL,bM⟩:Val),bI,bJ)) some
def f_s:Nat->j_T
 | 0=>⟨λ_ _ _ _=>none⟩
 | n+1=>⟨i_n n<|f_s n⟩
def n_y (n:Nat):=(f_s n).spec_l9Make
def f_t (n:Nat)(x1:Int)(x2:Int):Option Bt :=
 bd (d_h n x1 x2) λI=>bd (C_ (σ:=Bt×Int) (ρ:=Bt) (un2 λH G=>if (decide<|0<=G) then bd (idx I G) λJ=>bd (psh H J) λL=>some (.next (L,h_ G 1)) else some (.brk (H,G))) n (([]:Bt),h_ (I.length:Int) 1))<|el (un2 λH G=>some H)<|λO=>some O
def d_k (n:Nat)(x1:b_)(x2:Int):Option Bt :=
 if x1.little then bd (f_t n x2 x1.size) λG=>some G else bd (d_h n x2 x1.size) λH=>some H
structure j_U where
 spec_l11Print:c_->Int->Val->Option Bt
def b_V (n:Nat)(rec:j_U)(x1:c_)(x2:Int)(x3:Val):Option Bt :=
 bd (idx x1.rules x2) λG=>bd (t_ (σ:=Bt) (ρ:=Bt) (λL=>(λH=>bd (idx x3.items (L:Int)) λO=>bd (b_z G x3.number (L:Int)) λV=>bd (rec.spec_l11Print x1 V O) λW=>bd (app H W) λY=>some<|.next Y)) x3.items.length 0 ([]:Bt)) (el (λH=>if (G.kind==1) then bd (d_k n G x3.number) λa0=>some a0 else if (G.kind==2) then bd (app ([]:Bt) G.bytes) λa1=>some a1 else if (G.kind==4) then bd (idx G.kids 0) λa2=>bd (idx x1.rules a2) λa3=>bd (d_k n a3 (x3.bytes.length:Int)) λa4=>bd (app a4 x3.bytes) λa5=>some a5 else if (G.kind==5) then bd (idx G.kids 0) λa6=>bd (idx x1.rules a6) λa7=>bd (d_k n a7 (x3.items.length:Int)) λa8=>bd (app a8 H) λa9=>some a9 else if (G.kind==7) then bd (idx G.kids 0) λaa=>bd (idx x1.rules aa) λab=>bd (d_k n ab x3.number) λad=>bd (app ad H) λae=>some ae else if (G.kind==8) then bd (app [mkB (x3.items.length:Int)] H) λaf=>some af else if (G.kind==9) then bd (g_q H) λah=>bd (psh H<|mkB ah) λai=>some ai else if (G.kind==10) then bd (t_ (σ:=Bt) (ρ:=Bt) (λJ=>(λI=>bd (α:=Bool) (bd (idx x3.bytes (J:Int)) λaj=>bd (idx G.bytes 0) λak=>if ((byteI aj)==(byteI ak)) then some true else bd (idx x3.bytes (J:Int)) λal=>some<|(byteI al)==(byteI (92:UInt8))) (λam=>bd (α:=Bt) (if am then bd (psh I (92:UInt8)) λan=>some an else some I)<|λap=>bd (idx x3.bytes (J:Int)) λaq=>bd (psh ap aq) λar=>some<|.next ar))) x3.bytes.length 0 H) (el (λI=>bd (idx G.bytes 0) λau=>bd (psh I au) λav=>some av)<|λaw=>some aw) else if (G.kind==3) then bd (app ([]:Bt) x3.bytes) λax=>some ax else some H)<|λay=>some ay)
def d_D:Nat->j_U
 | 0=>⟨λ_ _ _=>none⟩
 | n+1=>⟨b_V n<|d_D n⟩
def f_u (n:Nat):=(d_D n).spec_l11Print
def g_K (x1:Bt)(x2:Bt):Option Bool :=
 if ((x1.length:Int) != (x2.length:Int)) then some false else bd (t_ (σ:=Unit) (ρ:=Bool) (λk10=>(λ(_:Unit)=>bd (idx x1 (k10:Int)) λG=>bd (idx x2 (k10:Int)) λH=>if ((byteI G) != (byteI H)) then some (.ret false) else some (.next ()))) x1.length 0 ()) (el (λ(_:Unit)=>some true)<|λI=>some I)
end Go.Vw
namespace Go.Vw
def i_X (x1:c_)(x2:b_)(x3:Val):Option Bool :=
 if (x2.kind==1) then bd (α:=Bool) (bd (c_F x2.size) λG=>bd (a_Q x3.number 0<|h_ G 1) λH=>if H then if ((x3.bytes.length:Int)==0) then some ((x3.items.length:Int)==0) else some false else some false) (λI=>some I) else if (x2.kind==2) then bd (α:=Bool) (if (x3.number==0) then if ((x3.bytes.length:Int)==0) then some ((x3.items.length:Int)==0) else some false else some false) (λJ=>some J) else if (x2.kind==3) then bd (α:=Bool) (if (x3.number==0) then if ((x3.bytes.length:Int)==x2.size) then some ((x3.items.length:Int)==0) else some false else some false) (λL=>some L) else if (x2.kind==4) then bd (α:=Bool) (if (x3.number==0) then bd (idx x2.kids 0) λO=>bd (d_z x1 O) λV=>bd (b_L 400 V) λW=>if (decide<|(x3.bytes.length:Int)<=W) then some ((x3.items.length:Int)==0) else some false else some false) (λY=>some Y) else if (x2.kind==10) then bd (α:=Bool) (if (x3.number==0) then if (decide<|(x3.bytes.length:Int)<=400) then some ((x3.items.length:Int)==0) else some false else some false) (λa0=>some a0) else if (x2.kind==5) then bd (α:=Bool) (if (x3.number==0) then if ((x3.bytes.length:Int)==0) then bd (idx x2.kids 0) λa1=>bd (d_z x1 a1) λa2=>bd (b_L 40 a2) λa3=>some (decide<|(x3.items.length:Int)<=a3) else some false else some false) (λa4=>some a4) else if (x2.kind==6) then bd (α:=Bool) (if (x3.number==0) then if ((x3.bytes.length:Int)==0) then some ((x3.items.length:Int)==(x2.kids.length:Int)) else some false else some false) (λa5=>some a5) else if (x2.kind==7) then bd (α:=Bool) (if ((x3.bytes.length:Int)==0) then if ((x3.items.length:Int)==1) then bd (b_z x2 x3.number 0) λa6=>some (decide<|0<=a6) else some false else some false) (λa7=>some a7) else if (x2.kind==8) then bd (α:=Bool) (if (x3.number==0) then if ((x3.bytes.length:Int)==0) then some (decide<|(x3.items.length:Int)<=1) else some false else some false) (λa8=>some a8) else bd (α:=Bool) (if (x3.number==0) then if ((x3.bytes.length:Int)==0) then some ((x3.items.length:Int)==1) else some false else some false) (λa9=>some a9)
structure p_Z where
 spec_l9Valid:c_->Int->Val->Option Bool
def i_Y (n:Nat)(rec:p_Z)(x1:c_)(x2:Int)(x3:Val):Option Bool :=
 bd (idx x1.rules x2) λG=>bd (i_X x1 G x3) λI=>if (!I) then some false else bd (t_ (σ:=Unit) (ρ:=Bool) (λH=>(λ(_:Unit)=>bd (idx x3.items (H:Int)) λJ=>bd (b_z G x3.number (H:Int)) λL=>bd (rec.spec_l9Valid x1 L J) λO=>if (!O) then some (.ret false) else some (.next ()))) x3.items.length 0 ()) (el (λ(_:Unit)=>some true)<|λV=>some V)
def f_5:Nat->p_Z
 | 0=>⟨λ_ _ _=>none⟩
 | n+1=>⟨i_Y n<|f_5 n⟩
def q_0 (n:Nat):=(f_5 n).spec_l9Valid
def g_k (n:Nat)(x1:c_)(x2:Int)(x3:Val):Option Bool :=
 bd (α:=Bool) (bd (g_s x1 x2) λG=>if G then bd (q_0 n x1 x2 x3) λH=>some H else some false) (λI=>some I)
def k_T (n:Nat)(x1:c_)(x2:Int)(x3:Val):Option (Bt×Bool) :=
 bd (g_k n x1 x2 x3) λH=>if (!H) then some (([]:Bt),false) else bd (f_u n x1 x2 x3) λG=>if (decide<|400<(G.length:Int)) then some (([]:Bt),false) else some (G,true)
def h_C (n:Nat)(x1:c_)(x2:Val):Option (Bt×Bool) :=
 bd (g_o x1) λG=>bd2 (k_T n x1 G x2) λH I=>some (H,I)
end Go.Vw
namespace Go.Vw
def n_k (x1:c_)(x2:Int)(x3:Val):Option Bool :=
 bd (idx x1.rules x2) λG=>bd (α:=Sum (Int×Int×Int) Bool) (if (G.kind==1) then bd (d_A x1 x2) λI=>some (.inl (I,0,0)) else bd (α:=Sum (Int×Int×Int)<|Sum (Int×Int×Int) Bool) (if (G.kind==3) then if ((x3.bytes.length:Int) != G.size) then some (.inr<|.inr false) else some (.inl (0,G.size,0)) else bd (α:=Int×Int×Int) (if (G.kind==4) then bd (idx G.kids 0) λJ=>bd (d_A x1 J) λL=>bd (d_Y 400 L) λO=>some (0,O,0) else bd (α:=Int×Int×Int) (if (G.kind==10) then some (0,400,0) else bd (α:=Int×Int) (if (G.kind==5) then bd (idx G.kids 0) λV=>bd (d_A x1 V) λW=>bd (d_Y 40 W) λY=>some (0,Y) else bd (α:=Int×Int) (if (G.kind==6) then some (0,(G.kids.length:Int)) else bd (α:=Int×Int) (if (G.kind==7) then bd (idx G.kids 0) λa0=>bd (d_A x1 a0) λa1=>some (a1,1) else bd (α:=Bool) (if (G.kind==8) then some (G.kind==8) else some (G.kind==9)) (λa2=>bd (α:=Int) (if a2 then some 1 else some 0)<|λa3=>some (0,a3))) (un2 λa4 a5=>some (a4,a5))) (un2 λa6 a7=>some (a6,a7))) (un2 λa8 a9=>some (a8,0,a9))) (un3 λaa ab ad=>some (aa,ab,ad))) (un3 λae af ah=>some<|.inl (ae,af,ah))) (el (un3 λai aj ak=>some<|.inl (ai,aj,ak)) some)) (el (un3 λal am H=>bd (α:=Bool) (if (G.kind==6) then some ((x3.items.length:Int) != H) else bd (α:=Bool) (if (G.kind==7) then some true else some (G.kind==9)) λan=>if an then some ((x3.items.length:Int) != H) else some false) (λap=>if ap then some false else bd (α:=Bool) (bd (c_4 x3.number 0 al) λaq=>if aq then if (decide<|(x3.bytes.length:Int)<=am) then some (decide<|(x3.items.length:Int)<=H) else some false else some false) (λar=>some ar))) some)
structure q_8 where
 impl_validValue:c_->Int->Val->Option Bool
def n_l (n:Nat)(rec:q_8)(x1:c_)(x2:Int)(x3:Val):Option Bool :=
 bd (n_k x1 x2 x3) λH=>if (!H) then some false else bd (t_ (σ:=Unit) (ρ:=Bool) (λk10=>(λ(_:Unit)=>bd (h_O x1 x2 x3 (k10:Int)) λG=>bd (α:=Bool) (if (decide<|G<0) then some true else bd (idx x3.items (k10:Int)) λI=>bd (rec.impl_validValue x1 G I) λJ=>some (!J)) (λL=>if L then some (.ret false) else some (.next ())))) x3.items.length 0 ()) (el (λ(_:Unit)=>some true)<|λO=>some O)
def j_M:Nat->q_8
 | 0=>⟨λ_ _ _=>none⟩
 | n+1=>⟨n_l n<|j_M n⟩
def q_9 (n:Nat):=(j_M n).impl_validValue
def j_N (n:Nat)(x1:c_)(x2:Int)(x3:Val):Option Bool :=
 bd (α:=Bool) (bd (h_M n x1 x2) λG=>if G then bd (q_9 n x1 x2 x3) λH=>some H else some false) (λI=>some I)
end Go.Vw
namespace Go.Vw
open Go.RowKit Dat
structure c_5 where
 d:c_
 out:Bt
deriving Inhabited
end Go.Vw
namespace Go.Vw
def c_Z (x1:c_5)(x2:Bt):Option Bt :=
 bd (app x1.out x2) λG=>some G
def l_Y (x1:Bt)(x2:UInt8):Option Bt :=
 bd (mk0 ()<|d_ (x1.length:Int) 1) λa0=>bd (t_ (σ:=Bt) (ρ:=Bt) (λI=>(λG=>bd (idx x1 (I:Int)) λH=>bd (α:=Bool) (if ((byteI H)==(byteI x2)) then some true else some ((byteI H)==(byteI (92:UInt8)))) (λJ=>bd (α:=Bt) (if J then bd (psh G (92:UInt8)) λL=>some L else some G)<|λO=>bd (psh O H) λV=>some<|.next V))) x1.length 0 ([]:Bt))<|el (λG=>bd (psh G x2) λW=>some W)<|λY=>some Y
def i_y (x1:c_5):Option Bool :=
 some (decide<|400<(x1.out.length:Int))
def i_z (n:Nat)(x1:Int)(x2:Int):Option Bt :=
 bd (α:=Bool) (bd (c_4 x2 1 4) λJ=>if (!J) then some true else if (decide<|x1<0) then some true else bd (nn<|U_ 8 x2) λY=>some<|decide<|(b_d .i64 1<|U_ 8 x2)<=x1) (λL=>if L then some ([]:Bt) else bd (mk0 (0:UInt8) x2) λO=>bd (C_ (σ:=Int×Bt×Int) (ρ:=Bt) (un3 λH I G=>if (decide<|0<=G) then bd (upd I G<|mkB H) λV=>some (.next (a_9 .i64 H 8,V,h_ G 1)) else some (.brk (H,I,G))) n (x1,O,h_ x2 1))<|el (un3 λH I G=>some I)<|λW=>some W)
def l_Z (n:Nat)(x1:Int)(x2:Int):Option Bt :=
 bd (i_z n x1 x2) λJ=>bd (C_ (σ:=Bt×Int×Int) (ρ:=Bt) (un3 λG H I=>if (decide<|H<I) then bd (α:=Bt) (bd (idx G I) λL=>bd (idx G H) λO=>bd (upd G H L) λV=>bd (upd V I O) λW=>some W) (λY=>some<|.next (Y,d_ H 1,h_ I 1)) else some (.brk (G,H,I))) n (J,0,h_ (J.length:Int) 1))<|el (un3 λG H I=>some G)<|λa0=>some a0
def i_A (n:Nat)(x1:b_)(x2:Int):Option Bt :=
 if x1.little then bd (l_Z n x2 x1.size) λG=>some G else bd (i_z n x2 x1.size) λH=>some H
def h_c (n:Nat)(x1:Int)(x2:Int)(x3:c_5):Option Bt :=
 bd (idx x3.d.rules x1) λG=>bd (i_A n G x2) λH=>bd (c_Z x3 H) λI=>some I
structure i_B where
 impl_printer_value:c_5->Int->Val->Option Bt
 impl_printer_items:c_5->Int->Val->Option Bt
def c_P (n:Nat)(rec:i_B)(x1:c_5)(x2:Int)(x3:Val):Option Bt :=
 bd (idx x1.d.rules x2) λG=>bd (α:=Bt) (if (G.kind==1) then bd (h_c n x2 x3.number x1) λJ=>some J else bd (α:=Bt) (if (G.kind==2) then bd (c_Z x1 G.bytes) λL=>some L else bd (α:=Bt) (if (G.kind==3) then bd (c_Z x1 x3.bytes) λO=>some O else bd (α:=Bt) (if (G.kind==4) then bd (idx G.kids 0) λV=>bd (h_c n V (x3.bytes.length:Int) x1) λW=>bd (c_Z (⟨(⟨x1.d.rules⟩:c_),W⟩:c_5) x3.bytes) λY=>some Y else bd (α:=Bt) (if (G.kind==5) then bd (idx G.kids 0) λa0=>bd (h_c n a0 (x3.items.length:Int) x1) λa1=>some a1 else bd (α:=Bt) (if (G.kind==7) then bd (idx G.kids 0) λa2=>bd (h_c n a2 x3.number x1) λa3=>some a3 else bd (α:=Bt) (if (G.kind==8) then bd (c_Z x1 [mkB (x3.items.length:Int)]) λa4=>some a4 else bd (α:=Bt) (if (G.kind==10) then bd (idx G.bytes 0) λa5=>bd (l_Y x3.bytes a5) λa6=>bd (c_Z x1 a6) λa7=>some a7 else some x1.out) (λa8=>some a8)) (λa9=>some a9)) (λaa=>some aa)) (λab=>some ab)) (λad=>some ad)) (λae=>some ae)) (λaf=>some af)) (λI=>bd (rec.impl_printer_items (⟨(⟨x1.d.rules⟩:c_),I⟩:c_5) x2 x3) λH=>bd (α:=Bt) (if (G.kind==9) then bd (slc H (I.length:Int) (H.length:Int)) λah=>bd (f_a ah) λai=>bd (c_Z (⟨(⟨x1.d.rules⟩:c_),H⟩:c_5) [mkB ai]) λaj=>some aj else some H)<|λak=>some ak)
def m_0 (n:Nat)(rec:i_B)(x1:c_5)(x2:Int)(x3:Val):Option Bt :=
 bd (t_ (σ:=Bt) (ρ:=Bt) (λH=>(λG=>bd (i_y (⟨(⟨x1.d.rules⟩:c_),G⟩:c_5)) λI=>if I then some (.ret G) else bd (idx x3.items (H:Int)) λJ=>bd (h_O (⟨x1.d.rules⟩:c_) x2 x3 (H:Int)) λL=>bd (rec.impl_printer_value (⟨(⟨x1.d.rules⟩:c_),G⟩:c_5) L J) λO=>some<|.next O)) x3.items.length 0 x1.out) (el (λG=>some G)<|λV=>some V)
def f_Y:Nat->i_B
 | 0=>⟨λ_ _ _=>none,λ_ _ _=>none⟩
 | n+1=>⟨c_P n<|f_Y n,m_0 n<|f_Y n⟩
def i_C (n:Nat):=(f_Y n).impl_printer_value
def o_1 (n:Nat)(x1:c_)(x2:Int)(x3:Val):Option (Bt×Bool) :=
 bd (j_N n x1 x2 x3) λH=>if (!H) then some (([]:Bt),false) else bd (i_C n (⟨(⟨x1.rules⟩:c_),([]:Bt)⟩:c_5) x2 x3) λG=>bd (i_y (⟨(⟨x1.rules⟩:c_),G⟩:c_5)) λI=>if I then some (([]:Bt),false) else some (G,true)
def o_2 (n:Nat)(x1:c_)(x2:Val):Option (Bt×Bool) :=
 bd (h_L x1) λG=>bd2 (o_1 n x1 G x2) λH I=>some (H,I)
end Go.Vw
namespace Go.Vw
open Go.RowKit Dat
structure n_z where
 kind:Int
 at_:Int
 byte:Int
deriving DecidableEq,Inhabited
instance:Dat n_z:=Dat.via<|λr=>(r.kind,r.at_,r.byte)
instance:a_o n_z:=⟨λh=>a_o.flat (α:=Int×Int×Int) h,λh=>a_o.none (α:=Int×Int×Int) h⟩
end Go.Vw
namespace Go.Vw
def k_b (x1:Int)(x2:Int):Option Int :=
 bd (a_Q x2 1 1000000000000) λG=>if (!G) then some 0 else bd (nz x2) λH=>bd (nz x2) λI=>some<|a_d (d_ (a_d x1 x2) x2) x2
def h_b (x1:Int)(x2:Int):Option Int :=
 if (decide<|x1<x2) then some x2 else some x1
def i_x (x1:Int):Option Int :=
 bd (k_b x1 2147483647) λG=>bd (h_b 1<|a_d (U_ G 48271) 2147483647) λH=>some H
def c_O (x1:Int):Option (Int×Int) :=
 bd (i_x x1) λG=>some (G,G)
end Go.Vw
namespace Go.Vw
def j_Q (x1:Int)(x2:Int):Option Bool :=
 some (decide<|x2<x1)
def j_R (x2:Int)(x3:List Int):Option Int :=
 bd (t_ (σ:=Int) (ρ:=Int) (λI=>(λG=>bd (idx x3 (I:Int)) λH=>bd (j_Q H G) λJ=>bd (α:=Int) (if J then some H else some G)<|λL=>some<|.next L)) x3.length 0 x2) (el (λG=>some G)<|λO=>some O)
def i_i (x1:Int)(x2:Int):Option Int :=
 bd (j_R x1 [x2]) λG=>some G
def i_j (x1:List Str)(x2:List Str):Option Bool :=
 if ((x1.length:Int) != (x2.length:Int)) then some false else bd (t_ (σ:=Unit) (ρ:=Bool) (λk10=>(λ(_:Unit)=>bd (idx x1 (k10:Int)) λG=>bd (idx x2 (k10:Int)) λH=>if (G.b != H.b) then some (.ret false) else some (.next ()))) x1.length 0 ()) (el (λ(_:Unit)=>some true)<|λI=>some I)
end Go.Vw
namespace Go.Vw
def h_d (x1:Bt)(x2:Int):Option Int :=
 if (decide<|x2<(x1.length:Int)) then bd (idx x1 x2) λG=>some (byteI G) else some (a_d (d_ (U_ x2 31)<|U_ (x1.length:Int) 7) 256)
end Go.Vw
namespace Go.Vw
def e_s (n:Nat)(x1:j_)(x2:c_):Option (c_×Int×Int) :=
 bd (h_X x2) λa1=>bd (C_ (σ:=Int×Int×Int×(List b_)) (ρ:=c_×Int×Int) (un4 λG L O H=>if (decide<|G<(H.length:Int)) then bd (α:=Int×Int×(List b_)) (bd (idx H G) λV=>bd (α:=Bool×Int×Int) (if (V.kind != 7) then some (true,L,O) else if (decide<|8<=(V.tags.length:Int)) then some (true,L,O) else bd3 (b_U (⟨x1.b,L,O⟩:j_) 4) λa2 a3 a4=>some (a2,a3,a4)) (un3 λa5 W Y=>if a5 then some (W,Y,H) else bd (idx V.tags<|h_ (V.tags.length:Int) 1) λa6=>bd3 (a_0 (⟨x1.b,W,Y⟩:j_) 3) λa7 a8 a9=>bd (α:=List b_) (bd (idx H G) λI=>bd (psh I.tags<|d_ (d_ a6 1) a7) λaa=>some<|H.set (G).toNat (⟨I.name,I.kind,I.size,I.little,I.bytes,I.names,aa,I.kids⟩:b_))<|λa0=>bd (α:=Int×Int×(List b_)) (bd (idx a0 G) λJ=>bd3 (a_0 (⟨x1.b,a8,a9⟩:j_) G) λab ad ae=>bd (psh J.kids ab) λaf=>some (ad,ae,a0.set (G).toNat (⟨J.name,J.kind,J.size,J.little,J.bytes,J.names,J.tags,af⟩:b_)))<|un3 λah ai aj=>some (ah,ai,aj))) (un3 λak al am=>some<|.next (d_ G 1,ak,al,am)) else some (.brk (G,L,O,H))) n (0,x1.i,x1.h,a1.rules))<|el (un4 λG L O H=>some ((⟨H⟩:c_),L,O))<|λan=>some an
def f_j (n:Nat)(x1:j_)(x2:c_):Option (c_×Int×Int) :=
 bd3 (e_s n x1 x2) λH Y a0=>bd3 (a_0 (⟨x1.b,Y,a0⟩:j_) (H.rules.length:Int)) λI J L=>bd (idx H.rules I) λG=>bd (α:=Int×Int×(List b_)) (if (G.kind==3) then bd3 (a_0 (⟨x1.b,J,L⟩:j_) 5) λa1 a2 a3=>some (a2,a3,H.rules.set (I).toNat (⟨G.name,G.kind,d_ 1 a1,G.little,G.bytes,G.names,G.tags,G.kids⟩:b_)) else bd (α:=Int×Int×(List b_)) (if (G.kind==6) then bd (α:=Bool×Int×Int) (if (decide<|(G.names.length:Int)<8) then bd3 (b_U (⟨x1.b,J,L⟩:j_) 2) λa4 a5 a6=>some (a4,a5,a6) else some (false,J,L)) (un3 λa7 V W=>bd (α:=Int×Int×(List b_)) (if a7 then bd (psh G.names (⟨[110,101,119]⟩:Str)) λa8=>bd3 (a_0 (⟨x1.b,V,W⟩:j_) I) λa9 aa ab=>bd (psh G.kids a9) λad=>some (aa,ab,H.rules.set (I).toNat (⟨G.name,G.kind,G.size,G.little,G.bytes,a8,G.tags,ad⟩:b_)) else bd (α:=List b_) (if (decide<|1<(G.names.length:Int)) then bd (slc G.names 1 (G.names.length:Int)) λae=>bd (slc G.kids 1 (G.kids.length:Int)) λaf=>some (H.rules.set (I).toNat (⟨G.name,G.kind,G.size,G.little,G.bytes,ae,G.tags,af⟩:b_)) else some (H.rules.set (I).toNat (⟨G.name,G.kind,G.size,G.little,G.bytes,G.names,G.tags,G.kids⟩:b_))) (λah=>some (V,W,ah)))<|un3 λai aj ak=>some (ai,aj,ak)) else bd (α:=List b_) (if (G.kind==10) then some (H.rules.set (I).toNat (⟨G.name,G.kind,G.size,G.little,[(7:UInt8)],G.names,G.tags,G.kids⟩:b_)) else bd (α:=List b_) (if (G.kind==1) then bd (α:=List b_) (if (decide<|G.size<3) then some (H.rules.set (I).toNat (⟨G.name,G.kind,d_ G.size 1,G.little,G.bytes,G.names,G.tags,G.kids⟩:b_)) else some (H.rules.set (I).toNat (⟨G.name,G.kind,G.size,G.little,G.bytes,G.names,G.tags,G.kids⟩:b_))) (λal=>some al) else some (H.rules.set (I).toNat (⟨G.name,G.kind,G.size,G.little,G.bytes,G.names,G.tags,G.kids⟩:b_))) (λam=>some am)) (λan=>some (J,L,an))) (un3 λap aq ar=>some (ap,aq,ar))) (un3 λau av O=>bd3 (b_U (⟨x1.b,au,av⟩:j_) 4) λaw ax ay=>bd (α:=List b_) (if aw then bd (psh O (⟨(⟨[111,112,116]⟩:Str),8,0,false,([]:Bt),([]:List Str),([]:List Int),[h_ (O.length:Int) 1]⟩:b_)) λaz=>some az else some O)<|λaA=>some ((⟨aA⟩:c_),ax,ay))
def g_D (n:Nat)(x1:j_):Option (D_×Bt×Int×Int) :=
 bd3 (i_m n x1) λa3 a4 a5=>bd3 (a_0 (⟨x1.b,a4,a5⟩:j_) 3) λa6 a7 a8=>bd (C_ (σ:=Int×Int×Int×(List b_)) (ρ:=D_×Bt×Int×Int) (un4 λJ L O G=>if (decide<|0<J) then bd3 (e_4 (⟨x1.b,L,O⟩:j_) [6,7,5]) λa9 aa ab=>bd3 (d_j n (⟨x1.b,aa,ab⟩:j_) (⟨G⟩:c_) a9) λad ae af=>bd (psh G ad) λah=>some (.next (h_ J 1,ae,af,ah)) else some (.brk (J,L,O,G))) n (a6,a7,a8,a3.rules)) (el (un4 λJ L O G=>bd3 (n_y n (⟨x1.b,L,O⟩:j_) (⟨G⟩:c_) (h_ (G.length:Int) 1) 6) λai aj ak=>bd (f_u n (⟨G⟩:c_) (h_ (G.length:Int) 1) ai) λal=>bd3 (a_0 (⟨x1.b,aj,ak⟩:j_) 3) λam an ap=>bd (C_ (σ:=Int×Int×Int×(List b_)×(List c_)) (ρ:=D_×Bt×Int×Int) (un5 λV W Y H I=>bd (α:=Bool) (if (decide<|0<V) then some (decide<|(H.length:Int)<20) else some false) (λaq=>if aq then bd3 (b_U (⟨x1.b,W,Y⟩:j_) 2) λar a1 a2=>bd (α:=Int×Int×(List b_)) (if ar then bd3 (e_s n (⟨x1.b,a1,a2⟩:j_) (⟨H⟩:c_)) λau av aw=>some (av,aw,au.rules) else bd3 (f_j n (⟨x1.b,a1,a2⟩:j_) (⟨H⟩:c_)) λax ay az=>some (ay,az,ax.rules)) (un3 λaA aB a0=>bd (f_7 (⟨a0⟩:c_)) λaC=>bd (α:=List c_) (if aC then bd (psh I (⟨a0⟩:c_)) λaD=>some aD else some I)<|λaE=>some<|.next (h_ V 1,aA,aB,a0,aE)) else some (.brk (V,W,Y,H,I)))) n (am,an,ap,G,[(⟨G⟩:c_)]))<|el (un5 λV W Y H I=>some ((⟨I⟩:D_),al,W,Y))<|λaF=>some aF)<|λaG=>some aG)
def i_3 (n:Nat)(x1:Log):Option Log :=
 bd (h_Y x1) λG=>bd (f_f n x1) λH=>bd (α:=Int) (if H then some (x1.bytes.length:Int) else some G.stored)<|λI=>some (⟨G.bytes,I⟩:Log)
def g_E (n:Nat)(x1:n_):Option n_ :=
 bd (f_h x1) λH=>bd (i_3 n (⟨x1.log.bytes,x1.log.stored⟩:Log)) λG=>some (⟨(⟨H.registry.versions⟩:D_),(⟨G.bytes,G.stored⟩:Log)⟩:n_)
def f_k (x1:Int)(x2:Int):Option (Bt×Int) :=
 bd (t_ (σ:=Bt×Int) (ρ:=Bt×Int) (λV=>un2 λG H=>bd2 (c_O H) λI J=>bd (psh G<|mkB<|a_d I 256) λL=>some<|.next (L,J)) x2.toNat 0 (([]:Bt),x1)) (el (un2 λG H=>some (G,H))<|λO=>some O)
structure n_m where
 spec_l25Value:c_->Int->Int->Int->Option (Val×Int)
def i_4 (n:Nat)(rec:n_m)(x1:c_)(x2:Int)(x3:Int)(x4:Int):Option (Val×Int) :=
 bd (idx x1.rules x2) λG=>bd (α:=Int×Int×Int×Bt) (if (G.kind==1) then bd2 (c_O x3) λY a0=>bd (c_F G.size) λJ=>bd (nz J) λaW=>some (0,a0,a_d Y J,([]:Bt)) else bd (α:=Int×Int×Int×Bt) (if (G.kind==3) then bd2 (f_k x3 G.size) λa1 a2=>some (0,a2,0,a1) else bd (α:=Int×Int×Int×Bt) (if (G.kind==4) then bd (idx G.kids 0) λa3=>bd2 (c_O x3) λa4 a5=>bd (b_L x4 400) λa6=>bd (d_z x1 a3) λa7=>bd (b_L a6 a7) λL=>bd (nz<|d_ L 1) λaX=>bd2 (f_k a5<|a_d a4<|d_ L 1) λa8 a9=>some (0,a9,0,a8) else bd (α:=Int×Int×Int×Bt) (if (G.kind==10) then bd2 (c_O x3) λaa ab=>bd (b_L x4 400) λO=>bd (nz<|d_ O 1) λaY=>bd2 (f_k ab<|a_d aa<|d_ O 1) λad ae=>some (0,ae,0,ad) else bd (α:=Int×Int×Int) (if (G.kind==5) then bd (idx G.kids 0) λaf=>bd2 (c_O x3) λah ai=>bd (b_L x4 40) λaj=>bd (d_z x1 af) λak=>bd (b_L aj ak) λV=>bd (nz<|d_ V 1) λaZ=>some (a_d ah<|d_ V 1,ai,0) else bd (α:=Int×Int×Int) (if (G.kind==7) then bd2 (c_O x3) λal am=>bd (nz (G.tags.length:Int)) λb0=>bd (idx G.tags<|a_d al (G.tags.length:Int)) λan=>some (1,am,an) else bd (α:=Int×Int) (if (G.kind==8) then bd2 (c_O x3) λap aq=>some (a_d ap 2,aq) else some ((G.kids.length:Int),x3)) (un2 λar au=>some (ar,au,0))) (un3 λav aw ax=>some (av,aw,ax))) (un3 λay az aA=>some (ay,az,aA,([]:Bt)))) (un4 λaB aC aD aE=>some (aB,aC,aD,aE))) (un4 λaF aG aH aI=>some (aF,aG,aH,aI))) (un4 λaJ aK aL aM=>some (aJ,aK,aL,aM)))<|un4 λaN aO W aP=>bd (t_ (σ:=Int×(List Val)) (ρ:=Val×Int) (λaQ=>un2 λH I=>bd (b_z G W (aQ:Int)) λaR=>bd2 (rec.spec_l25Value x1 aR H<|b_O x4 2) λaS aT=>bd (psh I aS) λaU=>some<|.next (aT,aU)) aN.toNat 0 (aO,([]:List Val)))<|el (un2 λH I=>some ((⟨W,aP,I⟩:Val),H))<|λaV=>some aV
def e_0:Nat->n_m
 | 0=>⟨λ_ _ _ _=>none⟩
 | n+1=>⟨i_4 n<|e_0 n⟩
def n_n (n:Nat):=(e_0 n).spec_l25Value
def j_O (n:Nat)(x1:c_)(x2:Int)(x3:Int)(x4:Int):Option Val :=
 bd (g_s x1 x2) λG=>if (!G) then some (⟨0,([]:Bt),([]:List Val)⟩:Val) else bd (h_b 0 x4) λH=>bd2 (n_n n x1 x2 x3 H) λI J=>some I
def e_t (n:Nat)(x1:c_)(x2:Int)(x3:Int):Option (Bt×Bool) :=
 bd (g_o x1) λG=>bd (j_O n x1 G x2 x3) λH=>bd2 (h_C n x1 H) λI J=>some (I,J)
def i_5 (n:Nat)(x1:j_):Option (n_×Int×Int) :=
 bd4 (g_D n x1) λV aa ab ad=>bd3 (a_0 (⟨x1.b,ab,ad⟩:j_) 6) λae af ah=>bd (C_ (σ:=Int×Int×Int×(List c_)×Bt×Int) (ρ:=n_×Int×Int) (un6 λJ L O G H I=>if (decide<|0<J) then bd3 (c_T (⟨x1.b,L,O⟩:j_) [(⟨[97]⟩:Str),(⟨[98]⟩:Str),(⟨[99,49]⟩:Str)]) λa4 ai aj=>bd3 (a_0 (⟨x1.b,ai,aj⟩:j_) 6) λa5 W Y=>bd (α:=Int×Int×(List c_)×Bt×Int) (if (a5==0) then bd2 (i_2 n (⟨(⟨G⟩:D_),(⟨H,I⟩:Log)⟩:n_) a4) λa0 aK=>some (W,Y,a0.registry.versions,a0.log.bytes,a0.log.stored) else bd (α:=Int×Int×(List c_)×Bt×Int) (if (a5==1) then bd (g_E n (⟨(⟨G⟩:D_),(⟨H,I⟩:Log)⟩:n_)) λa1=>some (W,Y,a1.registry.versions,a1.log.bytes,a1.log.stored) else bd3 (a_0 (⟨x1.b,W,Y⟩:j_) (V.versions.length:Int)) λa2 a6 a7=>bd (α:=Bool×Int×Int) (if (decide<|0<a2) then some (true,a6,a7) else bd3 (b_U (⟨x1.b,a6,a7⟩:j_) 2) λak al am=>some (ak,al,am)) (un3 λan a8 a9=>bd (α:=Bt×Int×Int) (if an then bd (idx V.versions a2) λap=>bd3 (a_0 (⟨x1.b,a8,a9⟩:j_) 9999) λaq ar au=>bd2 (e_t n ap aq 3) λav aL=>some (av,ar,au) else some (aa,a8,a9))<|un3 λaw ax ay=>bd2 (i_1 n (⟨(⟨G⟩:D_),(⟨H,I⟩:Log)⟩:n_) a4 a2 aw) λa3 aM=>some (ax,ay,a3.registry.versions,a3.log.bytes,a3.log.stored))) (un5 λaz aA aB aC aD=>some (az,aA,aB,aC,aD))) (un5 λaE aF aG aH aI=>some<|.next (h_ J 1,aE,aF,aG,aH,aI)) else some (.brk (J,L,O,G,H,I))) n (ae,af,ah,V.versions,([]:Bt),0))<|el (un6 λJ L O G H I=>some ((⟨(⟨G⟩:D_),(⟨H,I⟩:Log)⟩:n_),L,O))<|λaJ=>some aJ
def i_6 (n:Nat)(x1:Bt):Option n_ :=
 bd (i_l n x1) λG=>bd3 (i_5 n G) λH I J=>some H
def i_7 (n:Nat)(x1:Log):Option Log :=
 bd (g_B x1) λG=>bd (h_W n x1) λH=>bd (α:=Int) (if H then some (G.bytes.length:Int) else some G.stored)<|λI=>some (⟨G.bytes,I⟩:Log)
def i_8 (n:Nat)(x1:n_):Option n_ :=
 bd (h_Z x1) λH=>bd (i_7 n (⟨x1.log.bytes,x1.log.stored⟩:Log)) λG=>some (⟨(⟨H.registry.versions⟩:D_),(⟨G.bytes,G.stored⟩:Log)⟩:n_)
def i_9 (n:Nat)(x1:Log)(x2:Int):Option Log :=
 bd (g_B x1) λG=>bd (h_W n x1) λI=>if (!I) then some G else bd (i_i x2 x1.stored) λJ=>bd (d_Y J (x1.bytes.length:Int)) λL=>bd (slc x1.bytes 0 L) λO=>bd2 (g_z n O) λW H=>bd (slc G.bytes 0 H) λV=>some (⟨V,H⟩:Log)
def f_l (n:Nat)(x1:n_)(x2:Int):Option n_ :=
 bd (h_Z x1) λH=>bd (i_9 n (⟨x1.log.bytes,x1.log.stored⟩:Log) x2) λG=>some (⟨(⟨H.registry.versions⟩:D_),(⟨G.bytes,G.stored⟩:Log)⟩:n_)
def i_a (x1:List Str)(x2:List Str):Option Bool :=
 if ((x1.length:Int) != (x2.length:Int)) then some false else bd (t_ (σ:=Unit) (ρ:=Bool) (λk10=>(λ(_:Unit)=>bd (idx x1 (k10:Int)) λG=>bd (idx x2 (k10:Int)) λH=>if (G.b != H.b) then some (.ret false) else some (.next ()))) x1.length 0 ()) (el (λ(_:Unit)=>some true)<|λI=>some I)
def g_F (x1:List Int)(x2:List Int):Option Bool :=
 if ((x1.length:Int) != (x2.length:Int)) then some false else bd (t_ (σ:=Unit) (ρ:=Bool) (λk10=>(λ(_:Unit)=>bd (idx x1 (k10:Int)) λG=>bd (idx x2 (k10:Int)) λH=>if (G != H) then some (.ret false) else some (.next ()))) x1.length 0 ()) (el (λ(_:Unit)=>some true)<|λI=>some I)
def i_b (x1:b_)(x2:b_):Option Bool :=
 bd (α:=Bool) (if (x1.name.b==x2.name.b) then if (x1.kind==x2.kind) then if (x1.size==x2.size) then if (x1.little==x2.little) then bd (f_d x1.bytes x2.bytes) λG=>if G then bd (i_a x1.names x2.names) λH=>if H then bd (g_F x1.tags x2.tags) λI=>if I then bd (g_F x1.kids x2.kids) λJ=>some J else some false else some false else some false else some false else some false else some false else some false) (λL=>some L)
def i_c (x1:c_)(x2:c_):Option Bool :=
 if ((x1.rules.length:Int) != (x2.rules.length:Int)) then some false else bd (t_ (σ:=Unit) (ρ:=Bool) (λk10=>(λ(_:Unit)=>bd (idx x1.rules (k10:Int)) λG=>bd (idx x2.rules (k10:Int)) λH=>bd (i_b G H) λI=>if (!I) then some (.ret false) else some (.next ()))) x1.rules.length 0 ()) (el (λ(_:Unit)=>some true)<|λJ=>some J)
def i_d (x1:D_)(x2:D_):Option Bool :=
 if ((x1.versions.length:Int) != (x2.versions.length:Int)) then some false else bd (t_ (σ:=Unit) (ρ:=Bool) (λk10=>(λ(_:Unit)=>bd (idx x1.versions (k10:Int)) λG=>bd (idx x2.versions (k10:Int)) λH=>bd (i_c G H) λI=>if (!I) then some (.ret false) else some (.next ()))) x1.versions.length 0 ()) (el (λ(_:Unit)=>some true)<|λJ=>some J)
def j_P (x1:Log)(x2:Log):Option Bool :=
 bd (α:=Bool) (if (x1.stored==x2.stored) then bd (f_d x1.bytes x2.bytes) λG=>some G else some false) (λH=>some H)
def i_e (x1:n_)(x2:n_):Option Bool :=
 bd (α:=Bool) (bd (i_d (⟨x1.registry.versions⟩:D_) (⟨x2.registry.versions⟩:D_)) λG=>if G then bd (j_P (⟨x1.log.bytes,x1.log.stored⟩:Log) (⟨x2.log.bytes,x2.log.stored⟩:Log)) λH=>some H else some false) (λI=>some I)
def e_u (n:Nat)(x1:n_):Option (List Str) :=
 bd (h_U n x1) λH=>bd (t_ (σ:=List Str) (ρ:=List Str) (λI=>(λG=>bd (idx H (I:Int)) λJ=>bd (psh G J.name) λL=>some<|.next L)) H.length 0 ([]:List Str))<|el (λG=>some G)<|λO=>some O
def f_m (n:Nat)(x1:Bt):Option Bool :=
 bd (i_k x1) λL=>if L then some true else bd (i_6 n x1) λG=>bd (i_8 n G) λJ=>bd (C_ (σ:=Int) (ρ:=Bool) (λH=>if (decide<|H<=(G.log.bytes.length:Int)) then bd (f_l n G H) λI=>bd (α:=Bool) (bd (g_A n I) λO=>if (!O) then some true else if (decide<|(I.log.bytes.length:Int)<G.log.stored) then some true else some (decide<|(G.log.bytes.length:Int)<(I.log.bytes.length:Int))) (λV=>if V then some (.ret false) else bd (slc G.log.bytes 0 (I.log.bytes.length:Int)) λW=>bd (g_K I.log.bytes W) λY=>if (!Y) then some (.ret false) else bd (h_d x1 H) λa0=>some<|.next<|d_ (d_ H 1)<|a_d a0 9) else some (.brk H)) n 0) (el (λH=>bd (α:=Bool) (bd (f_l n J 0) λa1=>bd (i_e a1 J) λa2=>if a2 then bd (e_u n J) λa3=>bd (e_u n G) λa4=>bd (i_j a3 a4) λa5=>if a5 then bd (g_A n J) λa6=>some a6 else some false else some false)<|λa7=>some a7)<|λa8=>some a8)
end Go.Vw
namespace Go.Vw
open Go.RowKit Dat
theorem q_v {P:Program}{o:Oper}{a:Act}{w:World}{K K' K1 K2:Act->World->Prop}{Q:Exit->Act->World->Prop}(h:∀a w,K a w->K' a w)(hh:o.wp P a w K (Exit.then K1 Q)):o.wp P a w K' (Exit.then K2 Q):=by
 unfold Oper.wp at *
 generalize (execOp a.eval o).run P w=r at *
 cases r with
 | ok n w' =>
  cases n <;> simp only [Oper.upon] at hh ⊢ <;>
   first
    | exact h _ _ hh
    | exact Calls.mono hh (λe w'' he=>by cases e <;> first | exact h _ _ he | exact he)
    | exact Rows.mono hh<|λ_ _ he=>h _ _ he
 | halt x w'=>cases x <;> simp only [Oper.upon] at hh ⊢ <;> exact hh
theorem l_6 {P:Program}{ops:Array Oper}{K K1:Act->World->Prop}{Q:Exit->Act->World->Prop}{G:List Oper}(hk:∀a w,K1 a w->wpList P ops (Exit.then K Q) G a w):∀(l1:List Oper)(a:Act)(w:World),wpList P ops (Exit.then K1 Q) l1 a w->wpList P ops (Exit.then K Q) (l1++G) a w
 | [],a,w,h=>hk a w h
 | o::l1,a,w,h=>by
  rw [List.cons_append]
  unfold wpList at h ⊢
  split at h
  .rename_i hw
   rw [if_pos hw]
   rcases h with h | ⟨h1,h2⟩
   .exact .inl<|q_v (l_6 hk l1) h
   .exact .inr ⟨h1,h2⟩
  .rename_i hw
   rw [if_neg hw]
   exact l_6 hk l1 _ _ h
section
variable {P:Program}{N:Nat}{ops:Array Oper}{K:Act->World->Prop}{Q:Exit->Act->World->Prop}{e:Env}{w:World}{l:List Oper}
theorem q_w (k:Nat)(l:List Oper):l.take k++l.drop k=l:=List.take_append_drop k l
theorem e_3 (d:Nat)(u:Bool)(k:Nat)(h1:WL P N ops (λa w'=>w'=w/\Sat N ((d,vB u)::e) a) Q (l.take k) e w)(h2:WL P N ops K Q (l.drop k) ((d,vB u)::e) w):WL P N ops K Q l e w:=λa ha=>by
 rw [← q_w k l]
 exact l_6 (λa w' ⟨hw,hs⟩=>by subst hw;exact h2 a hs) _ a w<|h1 a ha
variable {d:Nat}{u c:Bool}
def l_7 (n:Nat)(e:Env):Bool:=(e.take n).all λp=>(e.drop n).all λq=>!Nat.beq p.1 q.1
theorem n_w:∀{e:Env}{t:Nat},(∀q∈e,Nat.beq t q.1=false)->u_ e t=none
 | [],_,_=>rfl
 | (k,v)::e,t,h=>by
  have h1:=h (k,v) List.mem_cons_self;have h2:Nat.beq k t=false:=by rw [← Bool.not_eq_true,Nat.beq_eq] at *;exact λh=>h1 h.symm
  rw [u_,h2]
  exact n_w λq hq=>h q<|List.mem_cons_of_mem _ hq
theorem n_x:∀{G H:Env}{t:Nat},(∀p∈G,Nat.beq p.1 t=false)->u_ (G++H) t=u_ H t
 | [],_,_,_=>rfl
 | (k,v)::G,H,t,h=>by
  rw [List.cons_append,u_,h (k,v) List.mem_cons_self]
  exact n_x λp hp=>h p<|List.mem_cons_of_mem _ hp
theorem q_x {n:Nat}{e:Env}(h:l_7 n e=true){t:Nat}{v:Value}(hl:u_ (e.drop n) t=some v):u_ e t=some v:=by
 have:u_ (e.take n++e.drop n) t=u_ (e.drop n) t:=by
  refine n_x λp hp=>?_
  cases hb:Nat.beq p.1 t with
  | false=>rfl
  | true =>
   exfalso
   have hpt:p.1=t:=Nat.eq_of_beq_eq_true hb;have h1:=List.all_eq_true.1 h p hp
   rw [List.all_eq_true] at h1
   have:=n_w (e:=e.drop n) (t:=t) λq hq=>by
    have:=h1 q hq
    rw [Bool.not_eq_true'] at this
    rw [← hpt];exact this
   rw [this] at hl;cases hl
 rw [List.take_append_drop] at this
 rw [this];exact hl
theorem q_y (n:Nat){e':Env}{a:Act}(hu:c=u)(G:u_ e' d=some (vB c))(hf:l_7 n e'=true)(he:e'.drop n=e)(ha:Sat N e' a):Sat N ((d,vB u)::e) a:=by
 subst hu;subst he;refine ⟨ha.defers,ha.size,λt v ht=>?_⟩
 simp only [u_] at ht
 by_cases hk:d=t
 .subst hk;have hb:Nat.beq d d=true:=by simp
  rw [hb] at ht
  simp only [cond_true,Option.some.injEq] at ht
  subst ht;exact ha.at_ d _ G
 .have hb:Nat.beq d t=false:=by rw [← Bool.not_eq_true,Nat.beq_eq];exact hk
  rw [hb] at ht
  simp only [cond_false] at ht
  exact ha.at_ t v<|q_x hf ht
theorem WLq (n:Nat){e':Env}(hu:some c=some u)(G:u_ e' d=some (vB c))(hf:l_7 n e'=true)(he:e'.drop n=e):WL P N ops (λa w'=>w'=w/\Sat N ((d,vB u)::e) a) Q [] e' w :=
 e_v λ_ ha=>⟨rfl,q_y n (Option.some.inj hu) G hf he ha⟩
end
end Go.Vw
universe u
namespace Go.Vw
open Go.RowKit Dat
section
variable {P:Program}{N:Nat}{ops:Array Oper}{K:Act->World->Prop}{Q:Exit->Act->World->Prop}{e:Env}{w:World}{rest:List Oper}
variable {d:Nat}{op:Op}{ty:TypeId}{pos:String}{aft:Array Edge}{x:Operand}
theorem Wn {y:Code}{Q':Exit->Act->World->Prop}(h:WC P N y K Q e w):WL P N ops (KC P y K Q) Q' [] e w:=e_v<|WC.of_KC h
theorem Ws {id:Nat}{l:List Oper}{y:Code}(h:WL P N l.toArray (KC P y K Q) Q l e w):WC P N (.seq (.region id l.toArray false) y) K Q e w:=f_o<|f_q h
theorem Wk {y:Code}{Q':Exit->Act->World->Prop}(h:WC P N y K Q e w):WC P N .skip (KC P y K Q) Q' e w:=a_l<|WC.of_KC h
theorem d_W {b:Bool}{o:Option Value}{v:Value}(h:(bif b then o else none)=some v):b=true/\o=some v:=by
 cases b
 .cases h
 .exact ⟨rfl,h⟩
theorem Rm {v:Value}(h:(bif Nat.blt d N then ev e x else none)=some v)(k:WL P N ops K Q rest ((d,v)::e) w):WL P N ops K Q (⟨some d,.move x,ty,pos,aft,none⟩::rest) e w:=R (d_W h).1 (e_P (d_W h).2) k
theorem Ra {v:Value}(h:(bif Nat.blt d N then ev e x else none)=some v)(k:WL P N ops K Q rest ((d,v)::e) w):WL P N ops K Q (⟨some d,.assign x,ty,pos,aft,none⟩::rest) e w:=R (d_W h).1 (e_Q (d_W h).2) k
section
variable {j:Nat}{want b:Bool}
theorem bind_some {o:Option Nat}{v:Value}(h:o.bind (u_ e)=some v):∃gd,o=some gd/\u_ e gd=some v:=by
 cases o with
 | none=>cases h
 | some g=>exact ⟨g,rfl,h⟩
theorem Rh {v:Value}(h:(bif Nat.blt d N then ((ops[j]?).bind (·.dst)).bind (u_ e) else none)=some (.bool b))(hw:b=want)(hr:Rd noX P N ⟨some d,op,ty,pos,aft,some (j,want)⟩ e w v)(k:WL P N ops K Q rest ((d,v)::e) w):WL P N ops K Q (⟨some d,op,ty,pos,aft,some (j,want)⟩::rest) e w:=by
 obtain ⟨gd,h1,h2⟩:=bind_some (d_W h).2;exact Rg h1 h2 hw (d_W h).1 hr k
theorem Nh (h:(bif Nat.blt d N then ((ops[j]?).bind (·.dst)).bind (u_ e) else none)=some (.bool b))(hw:b = !want)(k:WL P N ops K Q rest ((d,undef)::e) w):WL P N ops K Q (⟨some d,op,ty,pos,aft,some (j,want)⟩::rest) e w:=by
 obtain ⟨gd,h1,h2⟩:=bind_some (d_W h).2;exact Ng h1 h2 hw (d_W h).1 k
theorem Nv (h:(bif Nat.blt d N then ((ops[j]?).bind (·.dst)).bind (u_ e) else none)=some undef)(k:WL P N ops K Q rest ((d,undef)::e) w):WL P N ops K Q (⟨some d,op,ty,pos,aft,some (j,want)⟩::rest) e w:=by
 obtain ⟨gd,h1,h2⟩:=bind_some (d_W h).2;exact Nu h1 h2 (d_W h).1 k
end
end
theorem h_D {j:Nat}{K':Act->World->Prop}{Q:Exit->Act->World->Prop}{a:Act}{w:World}(h:Q .ret a w):inB j K' Q .ret a w:=h
theorem goF {P:Program}{f:FuncId}{G:Func}{c:Code}{N:Nat}{args:List Value}{w:World}{R:Value->World->Prop}(hf:P.funcs[f]? = some G)(hb:G.body=some c)(hN:G.ntmps=N)(hle:args.length<=N)(h:∀fn:Func,fn.results=G.results->WC P N c (c_j P fn R) (QR P fn R) (e_M 0 args) w):g_ P f args w R:=r_W hf hb hN hle<|h G rfl
theorem goG {P:Program}{f:FuncId}{G:Func}{c:Code}{N:Nat}{args:List Value}{w:World}{R:Value->World->Prop}(hf:P.funcs[f]? = some G)(hb:G.body=some c)(hN:G.ntmps=N)(hle:Nat.ble args.length N=true)(h:∀fn:Func,fn.results=G.results->WC P N c (c_j P fn R) (QR P fn R) (e_M 0 args) w):g_ P f args w R:=goF hf hb hN (Nat.le_of_ble_eq_true hle) h
section
variable {P:Program}{N:Nat}{e:Env}{w:World}{ty:TypeId}{pos:String}{aft:Array Edge}{gd:Option (Nat×Bool)}{x y:Operand}
theorem fs0 {T n g o:Nat}{v:Value}{cur cur':List Value}(hs:∀w,(sizeOf T).run P w = .ok n w)(hp:ev e x=some (.pointer<|some ⟨g,o,none⟩))(hv:ev e y=some v)(hB:Blk w g cur)(hn:v.cells.size=n)
  (ho:Nat.ble (o+n) cur.length=true) (h1:v.cells.toList.all Value.oneCell'=true) (hcur:cur.take o++v.cells.toList++cur.drop (o+v.cells.toList.length)=cur') :
  Ef P N ⟨none,.store T x y,ty,pos,aft,gd⟩ e w (λ_ w'=>Blk w' g cur'/\Chg (· = g) w w'):=d_E hs hp hv hB hn (Nat.le_of_ble_eq_true ho) (f_D h1) hcur
end
abbrev rQ {ρ:Type}(P:Program)(fn:Func)(Q:ρ->Value->World->Prop)(r:ρ)(ex:Exit)(a:Act)(w:World):Prop:=ex = .ret/\c_j P fn (Q r) a w
abbrev _root_.Go.World.z (w:World):Nat:=w.heap.size
abbrev sl (a:Option Addr)(n c:Nat):Value:=.slice a n c
abbrev sN:Value:=sl none 0 0
abbrev pt (g:Nat):Value:=.pointer<|some ⟨g,0,none⟩
abbrev Bw (a b:World):Prop:=Below a.heap.size a b
abbrev vR (x:b_)(G:Option Addr)(H I:Nat)(a2:Option Addr)(J L:Nat)(O:Option Addr)(V W:Nat)(Y:Option Addr)(n4 c4:Nat):List Value:=[x.name.v,vI x.kind,vI x.size,vB x.little,.slice G H I,.slice a2 J L,.slice O V W,.slice Y n4 c4]
theorem z {α:Sort u}{a:α}:a=a:=rfl
theorem Sat.k {N:Nat}{e e':Env}{a:Act}(h:Sat N e a)(hs:sub e e'):Sat N e' a:=h.weaken hs
theorem fid {a:Prop}(h:a):a:=h
theorem lt_ {a b c:Nat}(h:a<=b)(h':b<=c):a<=c:=Nat.le_trans h h'
theorem lr {a:Nat}:a<=a:=Nat.le_refl a
theorem lb {a b:Nat}(h:Nat.ble a b=true):a<=b:=Nat.le_of_ble_eq_true h
theorem ii {x:Int}(h:(decide (-9223372036854775808<=x) && decide (x<=9223372036854775807))=true):inI x:=inI_of x h
section
variable {S T A M:List Nat}{m n g k:Nat}
theorem h_E (h:m<=n):∀k∈[n],m<=k:=i_ h
theorem mno (h:∀ k∈T,k<m)(h':m<=n):∀k∈[n],k∉T:=i_<|λht=>absurd (h n ht)<|Nat.not_lt.2 h'
theorem mnr (h:∀ k∈T,k<m):∀k∈[m],k∉T:=mno h lr
theorem mm1 (h:g<m)(h':m<=n):∀k∈[n],k∉[g]:=mno (i_ h) h'
theorem mmr (h:g<m):∀k∈[m],k∉[g]:=mno (i_ h) lr
theorem mor (h:m<=n):∀k∈[n],k∈M∨m<=k:=i_<|.inr h
theorem o0le (hs:∀k∈S,n<=k)(h:m<=n):∀k∈S,m<=k:=or0 hs<|lele h
theorem c_d (hs:∀k∈S,n<=k)(h:g<m)(h':m<=n):∀k∈S,k∉[g]:=or0 hs<|Z_ (i_ h) h'
theorem o0no (hs:∀k∈S,n<=k)(h:∀ k∈T,k<m)(h':m<=n):∀k∈S,k∉T:=or0 hs<|Z_ h h'
theorem o1le (hs:∀k∈S,k∈A∨n<=k)(ha:∀k∈A,m<=k)(h:m<=n):∀k∈S,m<=k:=or1 hs ha<|lele h
theorem djs (h:∀k∈S,k∉[g]):g∉S:=λhg=>h g hg<|List.mem_singleton.2 rfl
theorem atp {p:Nat->Prop}(h:∀k∈[g],p k):p g:=h g<|List.mem_singleton.2 rfl
theorem nd0:([]++[]:List Nat).Nodup:=f_H r_ r_ c_v
end
section
variable {e e':Env}{v1 v2 v3 v4 v5 v6 v7 v8 v9:Value}{k1 k2 k3 k4 k5 k6 k7 k8 k9:Nat}
theorem s1 (h1:u_ e k1=some v1):sub e [(k1,v1)]:=⟨h1,trivial⟩
theorem s2 (h1:u_ e k1=some v1)(h2:u_ e k2=some v2):sub e [(k1,v1),(k2,v2)]:=⟨h1,s1 h2⟩
theorem s3 (h1:u_ e k1=some v1)(h2:u_ e k2=some v2)(h3:u_ e k3=some v3):sub e [(k1,v1),(k2,v2),(k3,v3)]:=⟨h1,s2 h2 h3⟩
theorem s4 (h1:u_ e k1=some v1)(h2:u_ e k2=some v2)(h3:u_ e k3=some v3)(h4:u_ e k4=some v4):sub e [(k1,v1),(k2,v2),(k3,v3),(k4,v4)]:=⟨h1,s3 h2 h3 h4⟩
theorem s5 (h1:u_ e k1=some v1)(h2:u_ e k2=some v2)(h3:u_ e k3=some v3)(h4:u_ e k4=some v4)(h5:u_ e k5=some v5):sub e [(k1,v1),(k2,v2),(k3,v3),(k4,v4),(k5,v5)]:=⟨h1,s4 h2 h3 h4 h5⟩
theorem s6 (h1:u_ e k1=some v1)(h2:u_ e k2=some v2)(h3:u_ e k3=some v3)(h4:u_ e k4=some v4)(h5:u_ e k5=some v5)(h6:u_ e k6=some v6):sub e [(k1,v1),(k2,v2),(k3,v3),(k4,v4),(k5,v5),(k6,v6)]:=⟨h1,s5 h2 h3 h4 h5 h6⟩
theorem s7 (h1:u_ e k1=some v1)(h2:u_ e k2=some v2)(h3:u_ e k3=some v3)(h4:u_ e k4=some v4)(h5:u_ e k5=some v5)(h6:u_ e k6=some v6)(G:u_ e k7=some v7):sub e [(k1,v1),(k2,v2),(k3,v3),(k4,v4),(k5,v5),(k6,v6),(k7,v7)]:=⟨h1,s6 h2 h3 h4 h5 h6 G⟩
theorem s8 (h1:u_ e k1=some v1)(h2:u_ e k2=some v2)(h3:u_ e k3=some v3)(h4:u_ e k4=some v4)(h5:u_ e k5=some v5)(h6:u_ e k6=some v6)(G:u_ e k7=some v7)(H:u_ e k8=some v8):sub e [(k1,v1),(k2,v2),(k3,v3),(k4,v4),(k5,v5),(k6,v6),(k7,v7),(k8,v8)]:=⟨h1,s7 h2 h3 h4 h5 h6 G H⟩
theorem s9 (h1:u_ e k1=some v1)(h2:u_ e k2=some v2)(h3:u_ e k3=some v3)(h4:u_ e k4=some v4)(h5:u_ e k5=some v5)(h6:u_ e k6=some v6)(G:u_ e k7=some v7)(H:u_ e k8=some v8)(I:u_ e k9=some v9):sub e [(k1,v1),(k2,v2),(k3,v3),(k4,v4),(k5,v5),(k6,v6),(k7,v7),(k8,v8),(k9,v9)]:=⟨h1,s8 h2 h3 h4 h5 h6 G H I⟩
end
theorem onL {α:Type}[Dat α]{w:World}:a_ w [] (.slice none 0 0) ([]:List α):=j_V w
theorem _root_.Go.RowKit.Below.s {b:Nat}{w w':World}(h:Below b w w'):w.heap.size<=w'.heap.size:=h.size
theorem Chg.s {X:Nat->Prop}{w w':World}(h:Chg X w w'):w.heap.size<=w'.heap.size:=h.size
abbrev Chg.e:=@Chg.ext
abbrev repS.e:=@repS.ext
abbrev repS.c:=@repS.chg
abbrev a_.e:=@a_.ext
abbrev a_.c:=@a_.chg
abbrev E_.e:=@E_.ext
abbrev E_.c:=@E_.chg
abbrev a_F.e:=@a_F.ext
abbrev a_F.c:=@a_F.chg
abbrev b_a.e:=@b_a.ext
abbrev b_a.c:=@b_a.chg
abbrev GlW.e:=@GlW.ext
abbrev GlW.c:=@GlW.chg
abbrev c_l.e:=@c_l.ext
abbrev c_l.c:=@c_l.chg
abbrev Blk.e:=@Blk.ext
abbrev Blk.c:=@Blk.chg
abbrev z_.e:=@z_.ext
abbrev z_.c:=@z_.chg
section
variable {P:Program}{N:Nat}{ops:Array Oper}{K:Act->World->Prop}{Q:Exit->Act->World->Prop}{e:Env}{w:World}{rest:List Oper}{X:Nat->Prop}{T:Nat}{p:a_B}
variable {d d':Nat}{ty ty':TypeId}{pos pos':String}{aft aft':Array Edge}{x x':Operand}{v v':Value}
theorem Rw {c:Code}{Q':Exit->Act->World->Prop}(h:(bif Nat.blt d N then ev e x else none)=some v)(k:WC P N c K Q ((d,v)::e) w):WL P N ops (KC P c K Q) Q' [⟨some d,.assign x,ty,pos,aft,none⟩] e w:=Ra h<|Wn k
theorem Wm {id:Nat}{l:List Oper}{c:Code}(h:(bif Nat.blt d N then ev e x else none)=some v)(k:WL P N (⟨some d,.move x,ty,pos,aft,none⟩::l).toArray (KC P c K Q) Q l ((d,v)::e) w):WC P N (.seq (.region id (⟨some d,.move x,ty,pos,aft,none⟩::l).toArray false) c) K Q e w:=Ws<|Rm h k
theorem RM (h:(bif Nat.blt d N then ev e x else none)=some v)(h':(bif Nat.blt d' N then ev ((d,v)::e) x' else none)=some v')(k:WL P N ops K Q rest ((d',v')::(d,v)::e) w):WL P N ops K Q (⟨some d,.move x,ty,pos,aft,none⟩::⟨some d',.move x',ty',pos',aft',none⟩::rest) e w:=Rm h<|Rm h' k
theorem RA (h:(bif Nat.blt d N then ev e x else none)=some v)(h':(bif Nat.blt d' N then ev ((d,v)::e) x' else none)=some v')(k:WL P N ops K Q rest ((d',v')::(d,v)::e) w):WL P N ops K Q (⟨some d,.assign x,ty,pos,aft,none⟩::⟨some d',.assign x',ty',pos',aft',none⟩::rest) e w:=Ra h<|Ra h' k
theorem dM {i:Nat}(ho:ops[i]? = some ⟨some d,.move x,ty,pos,aft,none⟩)(hf:Nat.blt d N=true)(h:ev e x=some v)(k:PR X P N ops T K p ((d,v)::e) w):PR X P N ops T K (.rd i p) e w:=dR ho hf (e_P h) k
theorem dQ {i:Nat}(ho:ops[i]? = some ⟨some d,.assign x,ty,pos,aft,none⟩)(hf:Nat.blt d N=true)(h:ev e x=some v)(k:PR X P N ops T K p ((d,v)::e) w):PR X P N ops T K (.rd i p) e w:=dR ho hf (e_Q h) k
theorem Wx {y y':Code}{b:Bool}{Q':Exit->Act->World->Prop}(hc:ev e x=some (.bool b))(ht:b=true->WC P N y K Q e w)(hf:b=false->WC P N y' K Q e w):WL P N ops (KC P (.cond x y y') K Q) Q' [] e w:=Wn<|f_p hc ht hf
section
variable {t u i:Nat}{k:IntKind}{a b:Int}
theorem Rl (hf:Nat.blt d N=true)(h1:ev e x=some (.int k a))(h2:ev e x'=some (.int k b))(h:WL P N ops K Q rest ((d,vB<|decide<|a<b)::e) w):WL P N ops K Q (⟨some d,.binOp .lss t x x' u,ty,pos,aft,none⟩::rest) e w:=R hf (g_a h1 h2) h
theorem Rq (hf:Nat.blt d N=true)(h1:ev e x=some (.int k a))(h2:ev e x'=some (.int k b))(h:WL P N ops K Q rest ((d,vB<|a==b)::e) w):WL P N ops K Q (⟨some d,.binOp .eql t x x' u,ty,pos,aft,none⟩::rest) e w:=R hf (g_8 h1 h2) h
theorem Rf {g o j:Nat}(hf:Nat.blt d N=true)(h1:Fld P t i j)(h2:ev e x=some (.pointer<|some ⟨g,o,none⟩))(h:WL P N ops K Q rest ((d,.pointer<|some ⟨g,o+j,none⟩)::e) w):WL P N ops K Q (⟨some d,.fieldAddr t x i,ty,pos,aft,none⟩::rest) e w:=R hf (f_Z h1 h2) h
theorem Re {vs:Array Value}(hf:Nat.blt d N=true)(h1:ev e x=some (.tuple vs))(h2:vs[i]? = some v)(h:WL P N ops K Q rest ((d,v)::e) w):WL P N ops K Q (⟨some d,.extract x i,ty,pos,aft,none⟩::rest) e w:=R hf (g_2 h1 h2) h
end
theorem l0 {t g o:Nat}{dst:Option Tmp}{gd:Option (Nat×Bool)}(hT:∀w,(isAgg t).run P w = .ok false w)(h:ev e x=some (.pointer<|some ⟨g,o,none⟩))(hc:w.cell? ⟨g,o,none⟩=some v):Rd noX P N ⟨dst,.load t x,ty,pos,aft,gd⟩ e w v:=g_0 hT h (λh=>h) hc
def plA:Nat->Nat->List Nat->a_B
 | _,0,_=>.done
 | i,n+1,l=>bif l.elem i then .ef i (plA (i+1) n l) else .rd i (plA (i+1) n l)
abbrev pl_ (n:Nat)(l:List Nat):a_B:=plA 0 n l
end
end Go.Vw
namespace Go.Vw
open Go.RowKit Dat
section
variable {w w' a b c : World} {M A S T : List Nat} {B : Zone} {v : Value} {g m n : Nat} {p : Prop}
section
variable {P : Nat → Prop} {S1 S2 S3 S4 : List Nat}
theorem Y_ (h : (S1 ++ S2).Nodup) (g : ∀ k ∈ S1 ++ S2, P k) : S1.Nodup ∧ S2.Nodup ∧ (∀ k ∈ S1, k ∉ S2) ∧ (∀ k ∈ S1, P k) ∧ ∀ k ∈ S2, P k := ⟨f_I h, f_J h, f_K h, λk hk => g k (List.mem_append_left _ hk), λk hk => g k (List.mem_append_right _ hk)⟩
theorem apQ3 (h : (S1 ++ (S2 ++ S3)).Nodup) (g : ∀ k ∈ S1 ++ (S2 ++ S3), P k) : S1.Nodup ∧ S2.Nodup ∧ S3.Nodup ∧ (∀ k ∈ S1, k ∉ S2) ∧ (∀ k ∈ S1, k ∉ S3) ∧ (∀ k ∈ S2, k ∉ S3) ∧ (∀ k ∈ S1, P k) ∧ (∀ k ∈ S2, P k) ∧ ∀ k ∈ S3, P k := by
 obtain ⟨a, b, c, d, e⟩ := Y_ h g
 obtain ⟨a', b', c', d', e'⟩ := Y_ b e
 exact ⟨a, a', b', λk hk h => c k hk (List.mem_append_left _ h), λk hk h => c k hk (List.mem_append_right _ h), c', d, d', e'⟩
theorem g_N (h : (S1 ++ (S2 ++ (S3 ++ S4))).Nodup) (g : ∀ k ∈ S1 ++ (S2 ++ (S3 ++ S4)), P k) : S1.Nodup ∧ S2.Nodup ∧ S3.Nodup ∧ S4.Nodup ∧ (∀ k ∈ S1, k ∉ S2) ∧ (∀ k ∈ S1, k ∉ S3) ∧ (∀ k ∈ S1, k ∉ S4) ∧ (∀ k ∈ S2, k ∉ S3) ∧ (∀ k ∈ S2, k ∉ S4) ∧ (∀ k ∈ S3, k ∉ S4) ∧ (∀ k ∈ S1, P k) ∧ (∀ k ∈ S2, P k) ∧ (∀ k ∈ S3, P k) ∧ ∀ k ∈ S4, P k := by
 obtain ⟨a, b, c, d, e⟩ := Y_ h g
 obtain ⟨n1, n2, n3, d1, d2, d3, g1, g2, g3⟩ := apQ3 b e
 exact ⟨a, n1, n2, n3, λk hk h => c k hk (List.mem_append_left _ h), λk hk h => c k hk (List.mem_append_right _ (List.mem_append_left _ h)), λk hk h => c k hk (List.mem_append_right _ (List.mem_append_right _ h)), d1, d2, d3, d, g1, g2, g3⟩
end
theorem kM1 {k : Nat} (hb : Below k w w') (h : m ≤ w.heap.size) : m ≤ w'.heap.size := Nat.le_trans h hb.size
theorem kM2 {X : Nat → Prop} (hb : Chg X w w') (h : m ≤ w.heap.size) : m ≤ w'.heap.size := Nat.le_trans h hb.size
theorem kM3 {k : Nat} (hb : Below k w w') (h : B ≤ bl w.heap.size) : B ≤ bl w'.heap.size := zt' h hb.size
theorem kM4 {X : Nat → Prop} (hb : Chg X w w') (h : B ≤ bl w.heap.size) : B ≤ bl w'.heap.size := zt' h hb.size
theorem kM5 {k : Nat} (hb : Below k w w') (h : g < w.heap.size) : g < w'.heap.size := Nat.lt_of_lt_of_le h hb.size
theorem kM6 {X : Nat → Prop} (hb : Chg X w w') (h : g < w.heap.size) : g < w'.heap.size := Nat.lt_of_lt_of_le h hb.size
theorem kM (h : p := by
 first
 | ((repeat' first
   | with_reducible assumption
   | exact Nat.le_refl _
   | ((with_reducible apply Blk.lt); (· with_reducible assumption))
   | ((with_reducible apply kM5); (· with_reducible assumption))
   | ((with_reducible apply kM6); (· with_reducible assumption))
   | ((with_reducible apply kM1); (· with_reducible assumption))
   | ((with_reducible apply kM2); (· with_reducible assumption))
   | ((with_reducible apply kM3); (· with_reducible assumption))
   | ((with_reducible apply kM4); (· with_reducible assumption))
   | with_reducible apply a_U
   | with_reducible apply a_V
   | exact zr); done)
 | fail) : p := h
theorem kL1 {k : Nat} (hb : Below k w w') (h : ∀ k ∈ S, k < w.heap.size) : ∀ k ∈ S, k < w'.heap.size := λk hk => Nat.lt_of_lt_of_le (h k hk) hb.size
theorem kL2 {X : Nat → Prop} (hb : Chg X w w') (h : ∀ k ∈ S, k < w.heap.size) : ∀ k ∈ S, k < w'.heap.size := λk hk => Nat.lt_of_lt_of_le (h k hk) hb.size
theorem kL3 {α : Type} {d : Dat α} {l : List α} (h : a_ w S v l) : ∀ k ∈ S, k < w.heap.size := h.lt
theorem kL4 {α : Type} {d : Dat α} {l : List α} (h : z_ w S B v l) : ∀ k ∈ S, k < w.heap.size := h.lt
theorem kL5 {α : Type} {d : Dat α} {l : List α} (h : c_m w S v l) : ∀ k ∈ S, k < w.heap.size := h.lt
theorem kL6 {o : Option (Int × Int)} (h : a_F g w S v o) : ∀ k ∈ S, k < w.heap.size := h.lt
theorem kL (h : p := by
 first
 | ((repeat' first
   | with_reducible assumption
   | exact c_v
   | ((with_reducible apply d_G))
   | ((with_reducible apply kL3); (· with_reducible assumption))
   | ((with_reducible apply kL4); (· with_reducible assumption))
   | ((with_reducible apply kL5); (· with_reducible assumption))
   | ((with_reducible apply kL6); (· with_reducible assumption))
   | ((with_reducible apply i_); exact kM)
   | ((with_reducible apply kL1); (· with_reducible assumption))
   | ((with_reducible apply kL2); (· with_reducible assumption))); done)
 | fail) : p := h
section
variable {P : Nat → Prop}
theorem g_O (h : ∀ k, n ≤ k → P k) : ∀ k ∈ [n], P k := i_ (h n (Nat.le_refl n))
theorem g_P (hg : n ≤ g) (h : ∀ k, n ≤ k → P k) : ∀ k ∈ [g], P k := i_ (h g hg)
theorem lit1 (h : ∀ k, n ≤ k → P k) (hs : ∀ k ∈ S, P k) : ∀ k ∈ n :: S, P k := λk hk => (List.mem_cons.1 hk).elim (λe => e ▸ h n (Nat.le_refl n)) (hs k)
theorem or1' (hs : ∀ k ∈ S, k ∈ A ∨ n ≤ k) (h : ∀ k, n ≤ k → P k) (ha : ∀ k ∈ A, P k) : ∀ k ∈ S, P k := or1 hs ha h
theorem or2' (hs : ∀ k ∈ S, k ∈ A ∨ k ∈ T ∨ n ≤ k) (h : ∀ k, n ≤ k → P k) (ha : ∀ k ∈ A, P k) (hb : ∀ k ∈ T, P k) : ∀ k ∈ S, P k := or2 hs ha hb h
theorem ltnotL (h : ∀ k ∈ T, k < n) : ∀ k, n ≤ k → k ∉ T := λk hk ht => absurd (h k ht) (Nat.not_lt.2 hk)
theorem ltgeb (h : ∀ k ∈ A, n ≤ k) : ∀ k, bl n k → k ∉ A := f_F h
theorem memJ (hg : g ∈ S) (h : ∀ k ∈ S, k ∉ T) : g ∉ T := h g hg
theorem singM (h : ∀ k ∈ [g], k ∉ T) : g ∉ T := h g (List.mem_singleton.2 rfl)
theorem singN {i j : Nat} (h : ∀ k ∈ [g], ¬ zn B i j k) : ¬ zn B i j g := h g (List.mem_singleton.2 rfl)
theorem singB (h : ∀ k ∈ [g], ¬ bl n k) : ¬ bl n g := h g (List.mem_singleton.2 rfl)
theorem nznL' {i j : Nat} (h1 : ∀ k ∈ A, k < i) (h : ∀ k ∈ A, ¬ B k) : ∀ k ∈ A, ¬ zn B i j k := nznL h h1 (Nat.le_refl _)
theorem nznR' {i j : Nat} (h1 : ∀ k ∈ A, j ≤ k) (h : ∀ k ∈ A, ¬ B k) : ∀ k ∈ A, ¬ zn B i j k := nznR h h1
end
theorem kU (h : p := by
 first
 | ((first
   | ((with_reducible apply lele); exact kM)
   | ((with_reducible apply b_H); exact kM)
   | ((with_reducible apply ltnotL); exact kL)
   | ((with_reducible apply b_t); exact kM)); done)
 | fail) : p := h
theorem sG (h : p := by
 first
 | ((repeat' first
   | with_reducible assumption
   | exact c_v
   | ((with_reducible apply d_G))
   | ((with_reducible apply g_O); exact kU)
   | ((with_reducible apply g_P); (· with_reducible assumption); exact kU)
   | ((with_reducible apply or0); (· with_reducible assumption); exact kU)
   | ((with_reducible apply or1'); (· with_reducible assumption); (· exact kU))
   | ((with_reducible apply or2'); (· with_reducible assumption); (· exact kU))
   | ((with_reducible apply lit1); (· exact kU))); done)
 | fail) : p := h
theorem sZ (h : p := by
 first
 | ((repeat' first
   | with_reducible assumption
   | exact c_v
   | ((with_reducible apply d_G))
   | ((with_reducible apply i_); (· with_reducible assumption))
   | ((with_reducible apply nbl); exact sG)
   | ((with_reducible apply g_O); exact kU)
   | ((with_reducible apply g_P); (· with_reducible assumption); exact kU)
   | ((with_reducible apply or0); (· with_reducible assumption); exact kU)
   | ((with_reducible apply or1'); (· with_reducible assumption); (· exact kU))
   | ((with_reducible apply or2'); (· with_reducible assumption); (· exact kU))
   | ((with_reducible apply lit1); (· exact kU))
   | ((with_reducible apply nznL'); (· exact kL))
   | ((with_reducible apply nznR'); (· exact sG))); done)
 | fail) : p := h
theorem sJ (h : p := by
 first
 | ((repeat' first
   | with_reducible assumption
   | ((with_reducible apply nmA))
   | with_reducible exact b_A (by with_reducible assumption)
   | ((with_reducible apply g_O); exact kU)
   | ((with_reducible apply g_P); (· with_reducible assumption); exact kU)
   | ((with_reducible apply b_A); (with_reducible apply g_O); exact kU)
   | ((with_reducible apply b_A); (with_reducible apply g_P); (· with_reducible assumption); exact kU)
   | ((with_reducible apply b_A); (with_reducible apply or0); (· with_reducible assumption); exact kU)
   | ((with_reducible apply b_A); (with_reducible apply or1'); (· with_reducible assumption); (· exact kU))
   | ((with_reducible apply b_A); (with_reducible apply or2'); (· with_reducible assumption); (· exact kU))
   | ((with_reducible apply b_A); (with_reducible apply lit1); (· exact kU))); done)
 | fail) : p := h
theorem nBg {Z : Zone} (hg : n ≤ g) (hb : Z ≤ bl n) : ¬ Z g := λh => absurd (hb g h) (Nat.not_lt.2 hg)
theorem nBh {Z : Zone} (hb : Z ≤ bl n) (hg : n ≤ g) : ¬ Z g := nBg hg hb
theorem sQ (h : p := by
 first
 | ((repeat' first
   | with_reducible assumption
   | exact c_v
   | exact nmN _
   | ((with_reducible show ∀ k ∈ (_ : List Nat), _); first
     | ((with_reducible apply b_A); (· with_reducible assumption))
     | (with_reducible apply d_G)
     | (with_reducible apply nmA)
     | ((with_reducible apply f_G); (first | exact c_h | exact a_i c_h | exact J_ c_h | exact J_ (a_i c_h) | exact J_ (J_ c_h) | exact J_ (J_ (a_i c_h)) | exact J_ (J_ (J_ (a_i c_h))) | exact J_ (J_ (J_ (J_ c_h))) | exact J_ (J_ (J_ c_h))))
     | ((with_reducible apply g_O); exact kU)
     | ((with_reducible apply g_P); (· with_reducible assumption); exact kU)
     | ((with_reducible apply or0); (· with_reducible assumption); exact kU)
     | ((with_reducible apply or1'); (· with_reducible assumption); (· exact kU))
     | ((with_reducible apply or2'); (· with_reducible assumption); (· exact kU))
     | ((with_reducible apply lit1); (· exact kU))
     | ((with_reducible apply b_A); (with_reducible apply g_O); exact kU)
     | ((with_reducible apply b_A); (with_reducible apply g_P); (· with_reducible assumption); exact kU)
     | ((with_reducible apply b_A); (with_reducible apply or0); (· with_reducible assumption); exact kU)
     | ((with_reducible apply b_A); (with_reducible apply or1'); (· with_reducible assumption); (· exact kU))
     | ((with_reducible apply b_A); (with_reducible apply or2'); (· with_reducible assumption); (· exact kU))
     | ((with_reducible apply b_A); (with_reducible apply lit1); (· exact kU))
     | exact sZ)
   | ((show ∀ _ : Nat, _ → _); first
     | (with_reducible apply nmA)
     | ((with_reducible apply T_); exact sZ)
     | ((with_reducible apply ltgeb); exact sG))
   | ((with_reducible apply memJ); (· with_reducible assumption); (with_reducible apply or0); (· with_reducible assumption); exact kU)
   | ((with_reducible apply memJ); (· with_reducible assumption); (· exact sJ))
   | ((with_reducible refine singM ?_); exact sJ)
   | (with_reducible refine singM ?_)
   | ((with_reducible apply nBg); (· with_reducible assumption); exact kM)
   | ((with_reducible apply nBh); (· with_reducible assumption); (· exact kM))
   | ((with_reducible refine singN ?_); exact sZ)
   | ((with_reducible refine singB ?_); exact sZ)
   | exact kM); done)
 | fail) : p := h
theorem b_8 {X : Nat → Prop} (h : Cg S w w') (hs : ∀ k ∈ S, X k := by exact sQ) : Chg X w w' := h.mono λk _ hk => hs k hk
theorem sQB {Z : Zone} (hk : Z g) (h : ∀ k, Z k → k ∉ M := by exact sQ) : g ∉ M := h g hk
theorem sQN {k : Nat} (hk : k ∈ S) (h : ∀ k ∈ S, k ∉ M := by exact sQ) : ¬ k ∈ M := h k hk
theorem kW1 (h' : Below b.heap.size b c) (h : Below a.heap.size a b) : Below a.heap.size a c := bup h h'
theorem kW2 (h' : Cg A b c) (hx : ∀ k ∈ A, a.heap.size ≤ k) (h : Below a.heap.size a b) : Below a.heap.size a c := f_L h h' hx
theorem kW3 (h' : Below b.heap.size b c) (h : Cg M a b) : Cg M a c := a_X h h'
theorem kW4 (h' : Cg A b c) (hx : ∀ k ∈ A, k ∈ M ∨ a.heap.size ≤ k) (h : Cg M a b) : Cg M a c := f_N h h' hx
theorem kW (h : p := by
 first
 | ((repeat' first
   | with_reducible assumption
   | with_reducible exact f_B _
   | with_reducible exact f_M _ _
   | ((with_reducible apply kW1); (· with_reducible assumption))
   | ((with_reducible apply kW2); (· with_reducible assumption); (· exact sQ))
   | ((with_reducible apply kW3); (· with_reducible assumption))
   | ((with_reducible apply kW4); (· with_reducible assumption); (· exact sQ))); done)
 | fail) : p := h
theorem Val.bytes_mk' (x : Int) (y : Bt) (z : List Val) : (Val.mk x y z).bytes = y := rfl
theorem Val.items_mk' (x : Int) (y : Bt) (z : List Val) : (Val.mk x y z).items = z := rfl
theorem kBx {l : List Value} (hb : Below w.heap.size w w') (h : Blk w g l) : Blk w' g l := h.ext hb
theorem kBy {l : List Value} (hc : Cg M w w') (h : Blk w g l) (hx : ∀ k ∈ [g], k ∉ M) : Blk w' g l := h.chg hc (hx g (List.mem_singleton.2 rfl))
theorem kB {l : List Value} (h : Blk w g l := by
 first
 | ((repeat' first
   | with_reducible assumption
   | ((with_reducible apply kBx); (· with_reducible assumption))
   | ((with_reducible apply kBy); (· with_reducible assumption))
   | exact sQ); done)
 | fail) : Blk w g l := h
theorem kBa {l : List Value} {i : Nat} (h : Blk w g l := by exact kB) (hv : l[i]? = some v := by exact rfl) : w.cell? ⟨g, i, none⟩ = some v := h.at hv
theorem kBr {l vs : List Value} (o n : Nat) (h : Blk w g l := by exact kB) (hv : (l.drop o).take n = vs := by exact rfl) : E_ w g o vs := h.row o n hv
theorem kRx {α : Type} {d : Dat α} {l : List α} (hb : Below w.heap.size w w') (h : repS w B v l) : repS w' B v l := h.ext hb
theorem kRy {α : Type} {d : Dat α} {l : List α} (hc : Cg M w w') (h : repS w B v l) (hx : ∀ k, B k → k ∉ M) : repS w' B v l := h.chg hc hx
theorem kR {α : Type} {d : Dat α} {l : List α} (h : repS w B v l := by
 first
 | ((repeat' first
   | with_reducible assumption
   | ((with_reducible apply kRx); (· with_reducible assumption))
   | ((with_reducible apply kRy); (· with_reducible assumption))
   | exact sQ); done)
 | (dsimp only [Val.bytes_mk', Val.items_mk']; (repeat' first
   | with_reducible assumption
   | ((with_reducible apply kRx); (· with_reducible assumption))
   | ((with_reducible apply kRy); (· with_reducible assumption))
   | exact sQ); done)
 | fail) : repS w B v l := h
theorem kOx {α : Type} {d : Dat α} {l : List α} (hb : Below w.heap.size w w') (h : a_ w S v l) : a_ w' S v l := h.ext hb
theorem kOy {α : Type} {d : Dat α} {l : List α} (hc : Cg M w w') (h : a_ w S v l) (hx : ∀ k ∈ S, k ∉ M) : a_ w' S v l := h.chg hc hx
theorem kO {α : Type} {d : Dat α} {l : List α} (h : a_ w S v l := by
 first
 | ((repeat' first
   | with_reducible assumption
   | ((with_reducible apply kOx); (· with_reducible assumption))
   | ((with_reducible apply kOy); (· with_reducible assumption))
   | exact sQ); done)
 | (dsimp only [Val.bytes_mk', Val.items_mk']; (repeat' first
   | with_reducible assumption
   | ((with_reducible apply kOx); (· with_reducible assumption))
   | ((with_reducible apply kOy); (· with_reducible assumption))
   | exact sQ); done)
 | fail) : a_ w S v l := h
theorem kHx {α : Type} {d : Dat α} {l : List α} (hb : Below w.heap.size w w') (h : z_ w S B v l) : z_ w' S B v l := h.ext hb
theorem kHy {α : Type} {d : Dat α} {l : List α} (hc : Cg M w w') (h : z_ w S B v l) (hx : ∀ k ∈ S, k ∉ M) (hy : ∀ k, B k → k ∉ M) : z_ w' S B v l := h.chg hc hx hy
theorem kH {α : Type} {d : Dat α} {l : List α} (h : z_ w S B v l := by
 first
 | ((repeat' first
   | with_reducible assumption
   | ((with_reducible apply kHx); (· with_reducible assumption))
   | ((with_reducible apply kHy); (· with_reducible assumption))
   | exact sQ); done)
 | (dsimp only [Val.bytes_mk', Val.items_mk']; (repeat' first
   | with_reducible assumption
   | ((with_reducible apply kHx); (· with_reducible assumption))
   | ((with_reducible apply kHy); (· with_reducible assumption))
   | exact sQ); done)
 | fail) : z_ w S B v l := h
theorem kEx {o : Option (Int × Int)} (hb : Below w.heap.size w w') (h : a_F g w S v o) : a_F g w' S v o := h.ext hb
theorem kEy {o : Option (Int × Int)} (hc : Cg M w w') (h : a_F g w S v o) (hx : ∀ k ∈ S, k ∉ M) : a_F g w' S v o := h.chg hc hx
theorem kE {o : Option (Int × Int)} (h : a_F g w S v o := by
 first
 | ((repeat' first
   | assumption
   | ((with_reducible apply kEx); (· with_reducible assumption))
   | ((with_reducible apply kEy); (· with_reducible assumption))
   | exact sQ); done)
 | fail) : a_F g w S v o := h
theorem kGx {D : World → Prop} (hb : Below w.heap.size w w') (h : GlW n D w B) : GlW n D w' B := h.ext hb
theorem kGy {D : World → Prop} (hc : Cg M w w') (h : GlW n D w B) (hx : ∀ k, B k → k ∉ M) : GlW n D w' B := h.chg hc hx
theorem kG {D : World → Prop} (h : GlW n D w B := by
 first
 | ((repeat' first
   | with_reducible assumption
   | ((with_reducible apply kGx); (· with_reducible assumption))
   | ((with_reducible apply kGy); (· with_reducible assumption))
   | exact sQ); done)
 | fail) : GlW n D w B := h
theorem kIx {x : Str} {q : Nat} (hb : Below w.heap.size w w') (h : b_a w g x q) : b_a w' g x q := h.ext hb
theorem kIy {x : Str} {q : Nat} (hc : Cg M w w') (h : b_a w g x q) (hx : ∀ k ∈ [g], k ∉ M) : b_a w' g x q := h.chg hc (hx g (List.mem_singleton.2 rfl))
theorem kI {x : Str} {q : Nat} (h : b_a w g x q := by
 first
 | ((repeat' first
   | with_reducible assumption
   | ((with_reducible apply kIx); (· with_reducible assumption))
   | ((with_reducible apply kIy); (· with_reducible assumption))
   | exact sQ); done)
 | fail) : b_a w g x q := h
theorem kCx {o : Nat} {l : List Value} (hb : Below w.heap.size w w') (h : E_ w g o l) : E_ w' g o l := h.ext hb
theorem kC {o : Nat} {l : List Value} (h : E_ w g o l := by
 first
 | ((repeat' first
   | with_reducible assumption
   | ((with_reducible apply kCx); (· with_reducible assumption))); done)
 | fail) : E_ w g o l := h
theorem kCa {o j : Nat} {l : List Value} (h : E_ w g o l := by exact kC) (hv : l[j]? = some v := by exact rfl) : w.cell? ⟨g, o + j, none⟩ = some v := h.at hv
theorem kCs {l vs : List Value} {o : Nat} (j n : Nat) (h : E_ w g o l := by exact kC) (hv : (l.drop j).take n = vs := by exact rfl) : E_ w g (o + j) vs := h.sub hv
end
end Go.Vw
namespace Go.Vw
open Go.RowKit Dat
abbrev pq (b o:Nat):Value:=.pointer<|some ⟨b,o,none⟩
abbrev rp {α:Type}[Dat α](w:World)(B:Zone)(a:Option Addr)(n c:Nat)(l:List α):Prop:=repS w B (.slice a n c) l
section
variable {P:Program}{N:Nat}{ops:Array Oper}{K:Act->World->Prop}{Q:Exit->Act->World->Prop}{e:Env}{w:World}{rest:List Oper}
variable {d:Nat}{op:Op}{ty:TypeId}{pos:String}{aft:Array Edge}{gd:Option (Nat×Bool)}{x y:Operand}{X:Nat->Prop}{T i:Nat}{p:a_B}{t g o n:Nat}{v:Value}{cur vs:List Value}
theorem EvX (cs:List Value)(hf:Nat.blt d N=true)(hx:ev e x=some v)(hc:v.cells.toList=cs)(k:∀w',Below w.heap.size w w'->Blk w' w.heap.size cs->WL P N ops K Q rest ((d,.pointer<|some ⟨w.heap.size,0,none⟩)::e) w'):WL P N ops K Q (⟨some d,.box t x,ty,pos,aft,none⟩::rest) e w :=
 E hf (f_x hx) λ_ w' q=>by
  obtain ⟨rfl,c⟩:=q;exact k w' c.below<|hc ▸ c.blk
theorem EvZ (cs:List Value)(hf:Nat.blt d N=true)(hz:∀w,(zeroValue t).run P w = .ok v w)(hc:v.cells.toList=cs)(k:∀w',Below w.heap.size w w'->Blk w' w.heap.size cs->WL P N ops K Q rest ((d,.pointer<|some ⟨w.heap.size,0,none⟩)::e) w'):WL P N ops K Q (⟨some d,.alloc t,ty,pos,aft,none⟩::rest) e w :=
 E hf (e_z hz) λ_ w' q=>by
  obtain ⟨rfl,c⟩:=q;exact k w' c.below<|hc ▸ c.blk
theorem dNb (cs:List Value)(ho:ops[i]? = some ⟨some d,.alloc t,ty,pos,aft,none⟩)(hf:Nat.blt d N=true)(hz:∀w,(zeroValue t).run P w = .ok v w)(hc:v.cells.toList=cs)(k:∀w',Below w.heap.size w w'->Blk w' w.heap.size cs->PR X P N ops T K p ((d,.pointer<|some ⟨w.heap.size,0,none⟩)::e) w'):PR X P N ops T K (.ef i p) e w :=
 dE ho hf (e_z hz) (.inr λ_ _ h=>a_N h.2.below) λ_ w' q=>by
  obtain ⟨rfl,c⟩:=q;exact k w' c.below<|hc ▸ c.blk
theorem fs9 (cs:List Value)(hs:∀w,(sizeOf t).run P w = .ok n w)(hp:ev e x=some (.pointer<|some ⟨g,o,none⟩))(hv:ev e y=some v)(hB:Blk w g cur)(h:(v.cells.size,Nat.ble (o+n) cur.length,v.cells.toList.all Value.oneCell',cur.take o++v.cells.toList++cur.drop (o+v.cells.toList.length))=(n,true,true,cs)) :
  Ef P N ⟨none,.store t x y,ty,pos,aft,gd⟩ e w (λ_ w'=>Blk w' g cs/\Chg (· = g) w w'):=by
 simp only [Prod.mk.injEq] at h
 exact fs0 hs hp hv hB h.1 h.2.1 h.2.2.1 h.2.2.2
theorem E0q (cs:List Value)(hs:∀w,(sizeOf t).run P w = .ok n w)(hp:ev e x=some (.pointer<|some ⟨g,o,none⟩))(hv:ev e y=some v)(hB:Blk w g cur)(h:(v.cells.size,Nat.ble (o+n) cur.length,v.cells.toList.all Value.oneCell',cur.take o++v.cells.toList++cur.drop (o+v.cells.toList.length))=(n,true,true,cs))(k:∀w',Blk w' g cs->Cg [g] w w'->WL P N ops K Q rest e w'):WL P N ops K Q (⟨none,.store t x y,ty,pos,aft,none⟩::rest) e w :=
 E0 (fs9 cs hs hp hv hB h) λ_ w' h=>k w' h.1 h.2.one
theorem dS {m:Nat}{M:List Nat}(cs:List Value)(ho:ops[i]? = some ⟨none,.store t x y,ty,pos,aft,none⟩)(hs:∀w,(sizeOf t).run P w = .ok n w)(hp:ev e x=some (.pointer<|some ⟨g,o,none⟩))(hv:ev e y=some v)(hB:Blk w g cur)(h:(v.cells.size,Nat.ble (o+n) cur.length,v.cells.toList.all Value.oneCell',cur.take o++v.cells.toList++cur.drop (o+v.cells.toList.length))=(n,true,true,cs))(hm:m<=g)(k:∀w',Blk w' g cs->Cg [g] w w'->PR (λk=>k∈M∨m<=k) P N ops T K p e w'):PR (λk=>k∈M∨m<=k) P N ops T K (.ef i p) e w :=
 dE0 ho (fs9 cs hs hp hv hB h) (.inr λ_ _ h=>chgNew hm h.2) λ_ w' q=>k w' q.1 q.2.one
theorem iB {R:Value->World->Prop}:T.testBit i=true∨∀v w',(Below w.heap.size w w'/\R v w')->Chg X w w':=.inr λ_ _ h=>a_N h.1
theorem lC (vs:List Value)(hT:∀w,(isAgg t).run P w = .ok true w)(hs:∀w,(sizeOf t).run P w = .ok n w)(h:ev e x=some (.pointer<|some ⟨g,0,none⟩))(hl:vs.length=n:=by exact rfl)(hc:Blk w g vs:=by exact kB):Rd noX P N ⟨some d,.load t x,ty,pos,aft,gd⟩ e w (.agg vs.toArray):=g_1 hT hs h hl (λh=>h) hc.all
theorem bQ {zs:List Value}{places:List (Nat×Nat)}{us:List (Nat×Value)}(parts:List (Nat×Operand))(cs:List Value)(hB:c_f P t zs places)(hv:evp e parts=some us)(hf:Instr.fill (places.toArray[·]?) zs.toArray us=some cs.toArray):Rd X P N ⟨some d,.build t parts.toArray,ty,pos,aft,gd⟩ e w (.agg cs.toArray):=f_O hB hv hf
variable {ao:Option Addr}{B:Zone}{c sz':Nat}{l:Int}{kk:IntKind}{E:Nat}{α:Type}
theorem xA [Dat α]{u:List α}{v:α}(hf:Nat.blt d N=true)(hT:P.underlying t=some (.slice E))(hs:∀w,(sizeOf E).run P w = .ok sz' w)(hsz:sz'=sz α)(hx:ev e x=some (.slice ao n c))(hy:ev e y=some (.int kk l))(hr:repS w B (.slice ao n c) u)(hi:idx u l=some v)
  (k:∀b o cs,E_ w b o cs->rep w B cs v->B b->WL P N ops K Q rest ((d,.pointer<|some ⟨b,o,none⟩)::e) w):WL P N ops K Q (⟨some d,.indexAddr t x y,ty,pos,aft,none⟩::rest) e w :=
 RX hf (e_D hT hs hsz hx hy hr hi) (by rintro _ ⟨b,o,cs,rfl,h1,h2,h3⟩;exact k b o cs h1 h2 h3)
theorem xI {u:List Int}{v:Int}(hf:Nat.blt d N=true)(hT:P.underlying t=some (.slice E))(hs:∀w,(sizeOf E).run P w = .ok sz' w)(hsz:sz'=sz Int)(hx:ev e x=some (.slice ao n c))(hy:ev e y=some (.int kk l))(hr:repS w B (.slice ao n c) u)(hi:idx u l=some v)
  (k:∀b o,E_ w b o [vI v]->inI v->WL P N ops K Q rest ((d,.pointer<|some ⟨b,o,none⟩)::e) w):WL P N ops K Q (⟨some d,.indexAddr t x y,ty,pos,aft,none⟩::rest) e w :=
 xA hf hT hs hsz hx hy hr hi (by rintro b o _ h1 h2 _;obtain ⟨rfl,h3⟩:=a_E h2;exact k b o h1 h3)
theorem dxA [Dat α]{u:List α}{v:α}(ho:ops[i]? = some ⟨some d,.indexAddr t x y,ty,pos,aft,none⟩)(hf:Nat.blt d N=true)(hT:P.underlying t=some (.slice E))(hs:∀w,(sizeOf E).run P w = .ok sz' w)(hsz:sz'=sz α)(hx:ev e x=some (.slice ao n c))(hy:ev e y=some (.int kk l))(hr:repS w B (.slice ao n c) u)(hi:idx u l=some v)
  (k:∀b o cs,E_ w b o cs->rep w B cs v->B b->PR X P N ops T K p ((d,.pointer<|some ⟨b,o,none⟩)::e) w):PR X P N ops T K (.rd i p) e w :=
 dRX ho hf (e_D hT hs hsz hx hy hr hi) (by rintro _ ⟨b,o,cs,rfl,h1,h2,h3⟩;exact k b o cs h1 h2 h3)
end
section
variable {P:Program}{N:Nat}{e:Env}{w:World}{fn:Func}{ρ:Type}{R:ρ->Value->World->Prop}{r s:ρ}{r1 r2 r3:ResultVar}{u v x:Value}
theorem rS1 (hq:some r=some s)(hr:fn.results = #[r1])(h1:c_k P e w r1 u)(hR:R r u w):∀a,Sat N e a->c_j P fn (R s) a w:=by
 cases hq
 exact a_J hr h1 hR
theorem rS2 (hq:some r=some s)(hr:fn.results = #[r1,r2])(h1:c_k P e w r1 u)(h2:c_k P e w r2 v)(hR:R r (.tuple #[u,v]) w):∀a,Sat N e a->c_j P fn (R s) a w:=by
 cases hq
 exact d_0 hr h1 h2 hR
theorem rS3 (hq:some r=some s)(hr:fn.results = #[r1,r2,r3])(h1:c_k P e w r1 u)(h2:c_k P e w r2 v)(h3:c_k P e w r3 x)(hR:R r (.tuple #[u,v,x]) w):∀a,Sat N e a->c_j P fn (R s) a w:=by
 cases hq
 exact e_N hr h1 h2 h3 hR
end
end Go.Vw
namespace Go.Vw
open Go.RowKit Dat
def zx (T:List Nat)(lo m G hi:Nat):Zone:=λk=>(lo<=k/\k<m∨G<=k/\k<hi)/\k∉T
theorem n_e {T:List Nat}{lo m G a b:Nat}(h:a<=b):zx T lo m G a<=zx T lo m G b:=λ_ q=>⟨q.1.imp id λr=>⟨r.1,Nat.lt_of_lt_of_le r.2 h⟩,q.2⟩
theorem k_U {T:List Nat}{lo m G a:Nat}:∀k∈T,¬zx T lo m G a k:=λk h q=>q.2 h
theorem n_f {T M:List Nat}{lo m G a:Nat}(hl:lo<=G)(h:∀k∈M,k<lo):∀k∈M,¬zx T lo m G a k:=λk hk q=>q.1.elim (λr=>absurd (h k hk)<|Nat.not_lt.2 r.1) λr=>absurd (h k hk)<|Nat.not_lt.2<|Nat.le_trans hl r.1
theorem zx_mid {T M:List Nat}{lo m G a:Nat}(h1:∀k∈M,m<=k)(h2:∀k∈M,k<G):∀k∈M,¬zx T lo m G a k:=λk hk q=>q.1.elim (λr=>absurd r.2<|Nat.not_lt.2<|h1 k hk) λr=>absurd (h2 k hk)<|Nat.not_lt.2 r.1
theorem n_g {T:List Nat}{lo m G a b:Nat}(h:a<=b):zx T lo m G a<=zx [] lo m G b:=λ_ q=>⟨q.1.imp id λr=>⟨r.1,Nat.lt_of_lt_of_le r.2 h⟩,List.not_mem_nil⟩
theorem zx_zn {B:Zone}{T:List Nat}{lo m I a G H:Nat}(J:G<=lo)(h2:G<=I)(hm:m<=H)(ha:a<=H):zx T lo m I a<=zn B G H:=λ_ q=>.inr<|q.1.elim (λr=>⟨Nat.le_trans J r.1,Nat.lt_of_lt_of_le r.2 hm⟩) λr=>⟨Nat.le_trans h2 r.1,Nat.lt_of_lt_of_le r.2 ha⟩
theorem a_e {T:List Nat}{lo m G a k:Nat}(h1:lo<=k)(h2:k<m)(h:k∉T):zx T lo m G a k:=⟨.inl ⟨h1,h2⟩,h⟩
theorem zx_b {T:List Nat}{lo m G a k:Nat}(h1:G<=k)(h2:k<a)(h:k∉T):zx T lo m G a k:=⟨.inr ⟨h1,h2⟩,h⟩
theorem k_V {g:Nat}{Si A:List Nat}(h:g∉Si)(hs:∀k∈A,k∈Si):∀k∈A,k∉[g]:=λk hk hm=>h<|List.mem_singleton.1 hm ▸ hs k hk
def zy (B:Zone)(T:List Nat)(lo hi:Nat):Zone:=λk=>B k∨(lo<=k/\k<hi/\k∉T)
section
variable {B Z:Zone}{T T1 T2 M:List Nat}{lo a b i j m n k:Nat}
theorem zy_l:B<=zy B T lo a:=λ_ h=>.inl h
theorem d_V (h:a<=b)(hT:∀k∈T2,k∈T1∨a<=k):zy B T1 lo a<=zy B T2 lo b:=λk q=>q.imp id λr=>⟨r.1,Nat.lt_of_lt_of_le r.2.1 h,λhk=>(hT k hk).elim r.2.2 λq=>absurd r.2.1<|Nat.not_lt.2 q⟩
theorem n_h (hB:B<=bl n)(h:a<=n):zy B T lo a<=bl n:=λk q=>q.elim (hB k) λr=>Nat.lt_of_lt_of_le r.2.1 h
theorem zy_zn (G:i<=lo)(h1:a<=j):zy B T lo a<=zn B i j:=λ_ q=>q.imp id λr=>⟨Nat.le_trans G r.1,Nat.lt_of_lt_of_le r.2.1 h1⟩
theorem zy_iv (h:Z<=zy B T lo b)(G:lo<=i)(h1:j<=b)(hT:∀k∈T,k<i∨j<=k):zn Z i j<=zy B T lo b:=λk q=>q.elim (h k) λr=>.inr ⟨Nat.le_trans G r.1,Nat.lt_of_lt_of_le r.2 h1,λhk=>(hT k hk).elim (λq=>absurd q<|Nat.not_lt.2 r.1) λq=>absurd r.2<|Nat.not_lt.2 q⟩
theorem f_6 (hB:∀k∈M,¬B k)(hT:∀k∈M,k∈T):∀k∈M,¬zy B T lo a k:=λk hk q=>q.elim (hB k hk) λr=>r.2.2<|hT k hk
theorem e_r (hB:∀k∈M,¬B k)(h:∀k∈M,k<lo):∀k∈M,¬zy B T lo a k:=λk hk q=>q.elim (hB k hk) λr=>absurd (h k hk)<|Nat.not_lt.2 r.1
theorem zy_hi (hB:∀k∈M,¬B k)(h:∀k∈M,a<=k):∀k∈M,¬zy B T lo a k:=λk hk q=>q.elim (hB k hk) λr=>absurd r.2.1<|Nat.not_lt.2<|h k hk
theorem n_i (h1:∀k∈M,lo<=k)(h2:∀k∈M,k<m)(h3:m<=a)(h4:∀k∈M,k∉T):∀k∈M,zy B T lo a k:=λk hk=>.inr ⟨h1 k hk,Nat.lt_of_lt_of_le (h2 k hk) h3,h4 k hk⟩
end
structure c_3 {α:Type}[Dat α](w:World)(S Si:List Nat)(g n c:Nat)(l:List α)(i:Nat)(cs:List Value):Prop where
 gN:g∉Si
 gS:g∈S
 row:∃(rs:List (Raw α))(r:Raw α),a_ w [g] (.slice (some ⟨g,0,none⟩) n c) rs/\rs.length=l.length/\rs[i]? = some r/\r.cs=cs/\∀(j:Nat)(q:Raw α)(y:α),j ≠ i->rs[j]? = some q->l[j]? = some y->rep w (λk=>k∈S/\k ≠ g/\k∉Si) q.cs y
section
variable {α:Type}[Dat α]{w w':World}{S Si:List Nat}{g n c:Nat}{l:List α}{cs:List Value}
theorem u_C {ao:Option Addr}{i:Int}{x:α}(ha:ao=some ⟨g,0,none⟩)(ho:a_ w S (.slice ao n c) l)(hN:S.Nodup)(hx:idx l i=some x) :
  ∃cs Si,c_3 w S Si g n c l i.toNat cs/\E_ w g (0+i.toNat * sz α) cs/\own w Si cs x/\Si.Nodup/\(∀k∈Si,k∈S):=by
 subst ha;obtain ⟨J,hx',hl⟩:=b_g hx;have hlt:=ho.lt
 rcases ho with ⟨h,_⟩ | ⟨g',c',cur,Ss,he,h1,h2,h3,h4,rfl,h6,G⟩
 .cases h
 simp only [Value.slice.injEq,Option.some.injEq,Addr.mk.injEq,and_true] at he
 obtain ⟨rfl,rfl,rfl⟩:=he;obtain ⟨hgn,hfn⟩:=List.nodup_cons.1 hN;obtain ⟨Si,hSi⟩:=e_O h6 hx';have hiS:i.toNat<Ss.length:=(List.getElem?_eq_some_iff.1 hSi).1
 rw [List.nodup_iff_pairwise_ne,List.pairwise_flatten] at hfn
 obtain ⟨I,H⟩:=hfn;have hSiN:Si.Nodup:=by rw [List.nodup_iff_pairwise_ne];exact I Si<|List.mem_of_getElem? hSi
 rw [List.pairwise_iff_getElem] at H
 have hSie:Ss[i.toNat]=Si:=by rw [List.getElem?_eq_getElem hiS] at hSi;exact Option.some.inj hSi
 have hdis:∀(j:Nat)(hj:j<Ss.length),j ≠ i.toNat->∀t∈Ss[j],t∉Si:=by
  intro j hj hji t ht ht'
  rw [← hSie] at ht'
  rcases Nat.lt_or_ge j i.toNat with h | h
  .exact H j i.toNat hj hiS h t ht t ht' rfl
  .exact H i.toNat j hiS hj (by omega) t ht' t ht rfl
 have hrep:∀j:Fin l.length,rep w (bl w.heap.size) (S_ (sz α) j.1 cur) l[j.1]:=by
  intro j;have hjx:l[j.1]? = some l[j.1]:=List.getElem?_eq_getElem j.2;obtain ⟨Sj,hSj⟩:=e_O h6 hjx;exact own_rep (G j.1 _ Sj hjx hSj) λk hk=>hlt k<|List.mem_cons_of_mem _<|c_n hSj hk
 let rs:List (Raw α):=List.ofFn λj:Fin l.length=>⟨S_ (sz α) j.1 cur,rep_len<|hrep j,rep_one<|hrep j⟩
 have hrl:rs.length=l.length:=by simp [rs]
 have hrs:∀(j:Nat)(q:Raw α),rs[j]? = some q->j<l.length/\q.cs=S_ (sz α) j cur:=by
  intro j q hq;have hj:j<l.length:=by have:=(List.getElem?_eq_some_iff.1 hq).1;rwa [hrl] at this
  refine ⟨hj,?_⟩
  rw [List.getElem?_eq_getElem (by rw [hrl];exact hj)] at hq
  obtain rfl:=Option.some.inj hq
  simp [rs]
 have hil:i.toNat<l.length:=(List.getElem?_eq_some_iff.1 hx').1;have hri:rs[i.toNat]? = some rs[i.toNat]:=List.getElem?_eq_getElem (by rw [hrl];exact hil)
 have hro:a_ w [g] (.slice (some ⟨g,0,none⟩) l.length c) rs:=by
  refine .inr ⟨g,c,cur,List.replicate rs.length [],by rw [hrl],by rw [hrl];exact h1,by rw [hrl];exact h2,h3,h4,?_,by simp,?_⟩
  .congr 1
   symm
   rw [List.flatten_eq_nil_iff]
   intro t ht;exact List.eq_of_mem_replicate ht
  .intro j q Sj hq hSj;refine ⟨?_,((hrs j q hq).2).symm⟩;have:=List.mem_of_getElem? hSj;exact List.eq_of_mem_replicate this
 refine ⟨S_ (sz α) i.toNat cur,Si,⟨λhg=>hgn<|c_n hSi hg,List.mem_cons_self,rs,rs[i.toNat]'(by rw [hrl];exact hil),hro,hrl,hri,(hrs _ _ hri).2,?_⟩,by rw [Nat.zero_add];exact h3.cells _ _,G _ x Si hx' hSi,hSiN,λk hk=>List.mem_cons_of_mem _<|c_n hSi hk⟩;intro j q y hji hq hy;obtain ⟨hj,hqc⟩:=hrs j q hq;have hjS:j<Ss.length:=by omega
 obtain ⟨Sj,hSj⟩:=e_O h6 hy;have hje:Ss[j]=Sj:=by rw [List.getElem?_eq_getElem hjS] at hSj;exact Option.some.inj hSj
 rw [hqc]
 exact own_rep (G j y Sj hy hSj) λk hk=>⟨List.mem_cons_of_mem _<|c_n hSj hk,λh=>hgn<|h ▸ c_n hSj hk,hdis j hjS hji k<|hje ▸ hk⟩
variable {i:Nat}
theorem c_3.ext (h:c_3 w S Si g n c l i cs)(hb:Below w.heap.size w w'):c_3 w' S Si g n c l i cs:=by
 obtain ⟨rs,r,h1,h2,h3,h4,h5⟩:=h.row;exact ⟨h.gN,h.gS,rs,r,h1.ext hb,h2,h3,h4,λj q y a b d=>o_d (h5 j q y a b d) hb⟩
theorem c_3.chg {M:List Nat}(h:c_3 w S Si g n c l i cs)(hc:Cg M w w')(hM:∀k∈M,k∈S->k∈Si):c_3 w' S Si g n c l i cs:=by
 obtain ⟨rs,r,h1,h2,h3,h4,h5⟩:=h.row;exact ⟨h.gN,h.gS,rs,r,h1.chg hc<|λk hk hm=>h.gN (by rw [List.mem_singleton.1 hk] at hm;exact hM _ hm h.gS),h2,h3,h4,λj q y a b d=>m_5 (h5 j q y a b d) hc λk hk hm=>hk.2.2<|hM k hm hk.1⟩
theorem c_3.len (h:c_3 w S Si g n c l i cs):n=l.length:=by
 obtain ⟨rs,r,h1,h2,_⟩:=h.row;obtain ⟨_,_,he,_⟩:=h1.rep
 cases he
 exact h2
theorem c_3.shr {ao:Option Addr}(h:c_3 w S Si g n c l i cs)(ha:ao=some ⟨g,0,none⟩){x':α}{Z:Zone}(hr:rep w Z cs x')(hZ:∀k∈S,k∉[g]->Z k):z_ w [g] Z (.slice ao n c) (l.set i x'):=by
 subst ha;obtain ⟨rs,r,h1,h2,h3,rfl,h5⟩:=h.row;refine ⟨.inr ⟨rs,h1,by simpa using h2,λj q y hq hy=>?_⟩⟩
 by_cases hji:j=i
 .subst hji
  rw [h3] at hq
  obtain rfl:=Option.some.inj hq
  rw [List.getElem?_set_self (by have:=(List.getElem?_eq_some_iff.1 h3).1;omega)] at hy
  obtain rfl:=Option.some.inj hy;exact hr
 .rw [List.getElem?_set_ne (Ne.symm hji)] at hy
  exact rep_mono (h5 j q y hji hq hy) λk hk=>hZ k hk.1 λhm=>hk.2.1<|List.mem_singleton.1 hm
theorem q_1 {x:α}{B:Zone}(hb:Blk w g cs)(hr:rep w B cs x):z_ w [g] B (.slice (some ⟨g,0,none⟩) 1 1) [x]:=by
 obtain ⟨r,rfl⟩:=k_W hr;refine ⟨.inr ⟨[r],.inr ⟨g,1,r.cs,[[]],rfl,Nat.le_refl _,(by decide:1<=LEN),hb,by rw [r.len,Nat.one_mul];rfl,rfl,rfl,λj q Sj hq hS=>?_⟩,rfl,λj q z a b=>?_⟩⟩
 .cases j with
  | zero =>
   cases hq;cases hS
   refine ⟨rfl,?_⟩;have:=r.len
   rw [Nat.zero_mul,List.drop_zero]
   exact List.take_of_length_le<|Nat.le_of_eq this
  | succ j=>simp at hq
 .cases j with
  | zero=>cases a;cases b;exact hr
  | succ j=>simp at a
theorem raw_S {rs:List (Raw α)}{S':List Nat}(h:a_ w S' (.slice (some ⟨g,0,none⟩) n c) rs):S'=[g]:=by
 rcases h with ⟨h,_⟩ | ⟨g',c',cur,Ss,he,h1,h2,h3,h4,rfl,h6,G⟩
 .cases h
 simp only [Value.slice.injEq,Option.some.injEq,Addr.mk.injEq,and_true] at he
 obtain ⟨rfl,_,_⟩:=he
 congr 1
 rw [List.flatten_eq_nil_iff]
 intro t ht;obtain ⟨j,hj⟩:=List.mem_iff_getElem?.1 ht;have hj':j<rs.length:=by have:=(List.getElem?_eq_some_iff.1 hj).1;omega
 exact (G j _ t (List.getElem?_eq_getElem hj') hj).1
end
section
variable {P:Program}{N:Nat}{e:Env}{w:World}{dst:Option Tmp}{T E:Nat}{ty:TypeId}{pos:String}{aft:Array Edge}{gd:Option (Nat×Bool)}{x y:Operand}{X:Nat->Prop}
variable {S Si:List Nat}{g n c sz':Nat}{ao:Option Addr}{i:Int}{cs:List Value}{u:Value}{kk:IntKind}
theorem g_l {α:Type}{l:List α}{v:α}(hT:P.underlying T=some (.slice E))(hs:∀w,(sizeOf E).run P w = .ok sz' w)(hx:ev e x=some (.slice ao n c))(hy:ev e y=some (.int kk i))(ha:ao=some ⟨g,0,none⟩)(hi:idx l i=some v)(hn:n=l.length) :
  Rd X P N ⟨dst,.indexAddr T x y,ty,pos,aft,gd⟩ e w (.pointer<|some ⟨g,0+i.toNat * sz',none⟩):=by
 subst ha;obtain ⟨G,_,h1⟩:=b_g hi;exact h_h (k:=kk) hT hs hx hy G (by omega)
theorem g_m {α:Type}[Dat α]{l:List α}{o:Nat}(hs:∀w,(sizeOf T).run P w = .ok 1 w)(hsz:sz'=sz α)(hx:ev e x=some (.pointer<|some ⟨g,0+i.toNat * sz'+o,none⟩))(hy:ev e y=some u)(hu:u.cells.toList=[u])(h1:u.oneCell'=true)(h:c_3 w S Si g n c l i.toNat cs)(G:0<=i)(hlt:o<sz') :
  Ef P N ⟨none,.store T x y,ty,pos,aft,gd⟩ e w (λ_ w'=>c_3 w' S Si g n c l i.toNat (cs.set o u)/\Cg [g] w w'):=by
 obtain ⟨rs,r,k1,k2,k3,rfl,k5⟩:=h.row;have hi:idx rs i=some r:=by unfold idx;rw [if_pos G,k3]
 let r':Raw α:=⟨r.cs.set o u,by simpa using r.len,λq hq=>(List.mem_or_eq_of_mem_set hq).elim (r.one q) λh=>h ▸ h1⟩
 have hm:upd rs i r'=some (rs.set i.toNat r'):=by unfold upd;rw [if_pos ⟨G,by have:=(List.getElem?_eq_some_iff.1 k3).1;omega⟩]
 have hE:=r_T (α:=Raw α) (P:=P) (N:=N) (ty:=ty) (pos:=pos) (aft:=aft) (gd:=gd) (v':=r') hs hsz rfl hx hy hu h1 hi hm k1 (by simp) hlt (by rintro w S cs ⟨rfl,rfl⟩;exact ⟨rfl,rfl⟩)
 constructor
 intro a ha Q;refine Oper.wp_mono ?_<|hE.run a ha Q;rintro a' w' ⟨H,rfl,S',hc,k6,k7,k8⟩;obtain rfl:=raw_S k6;refine ⟨H,rfl,⟨h.gN,h.gS,rs.set i.toNat r',r',k6,by simpa using k2,by rw [List.getElem?_set_self (List.getElem?_eq_some_iff.1 k3).1],rfl,λj q y hji hq hy=>?_⟩,hc⟩
 rw [List.getElem?_set_ne (Ne.symm hji)] at hq
 exact m_5 (k5 j q y hji hq hy) hc λk hk hm=>hk.2.1<|List.mem_singleton.1 hm
end
abbrev c_3.e:=@c_3.ext
abbrev c_3.c:=@c_3.chg
end Go.Vw
namespace Go.Vw
open Go.RowKit Dat Go.ChangeShapes Go.WideShapes Go.ChangeAt
structure IsT (P:Program)(t:TypeId)(α:Type)[Dat α](L:α->Prop):Prop where
 rd:∀{H:Type}(enc:TypeId×Value->H)(W:World)(fuel:Nat)(cs:List Value)(x:DataW H×List MemPlace),DataW.trod enc P W 0 (λ_=>true) true fuel t cs=some x->(x.1.weights P t).all (· <= reachBytes)=true->∃v:α,rep W W.heap.size cs v/\L v
section
variable {P:Program}{t:TypeId}
theorem r_M (ht:P.underlying t=some (.int .u8)):IsT P t UInt8 (λ_=>True):=⟨λenc W fuel cs x h _=>by
 obtain ⟨n,rfl,_,hw⟩:=DataW.trod_int ht h;have hb:=bounds_u8 hw
 have e:n=byteI (UInt8.ofNat n.toNat):=by
  unfold byteI
  rw [UInt8.toNat_ofNat']
  omega
 refine ⟨UInt8.ofNat n.toNat,⟨_,rfl,?_⟩,trivial⟩
 show Value.int .u8 n=vU (byteI<|UInt8.ofNat n.toNat)
 rw [← e]⟩
theorem o_3 {H:Type}{e:TypeId}:∀{l:List (DataW H)}{d:DataW H},(DataW.weightsAll P e l).all (· <= reachBytes)=true->d∈l->(d.weights P e).all (· <= reachBytes)=true
 | [],_,_,h=>by cases h
 | y::l,d,hw,h=>by
  unfold DataW.weightsAll at hw
  rw [List.all_append,Bool.and_eq_true] at hw
  rcases List.mem_cons.1 h with rfl | h
  .exact hw.1
  .exact o_3 hw.2 h
theorem o_4 {H:Type}:∀{ts:List TypeId}{l:List (DataW H)}{i:Nat}{t:TypeId}{d:DataW H},(DataW.weightsEach P ts l).all (· <= reachBytes)=true->ts[i]? = some t->l[i]? = some d->(d.weights P t).all (· <= reachBytes)=true
 | [],_,_,_,_,_,h,_=>by simp at h
 | _::_,[],_,_,_,_,_,h=>by simp at h
 | t::ts,y::l,i,t',d,hw,h1,h2=>by
  unfold DataW.weightsEach at hw
  rw [List.all_append,Bool.and_eq_true] at hw
  cases i with
  | zero=>simp at h1 h2;subst h1 h2;exact hw.1
  | succ i=>simp at h1 h2;exact o_4 hw.2 h1 h2
theorem cells?_spec {w:World}{a:Addr}{n:Nat}{cs:List Value}(h:w.cells? 0 a n=some cs):cs.length=n/\∀j v,cs[j]? = some v->w.cell? (a.add j)=some v:=by
 unfold World.cells? at h
 rw [if_pos (Nat.zero_le _)] at h
 refine ⟨by simpa using mapM_some_length h,λj v hv=>?_⟩
 have hj:j<n:=by
  have h1:=(List.getElem?_eq_some_iff.1 hv).1;have h2:=mapM_some_length h
  simp at h2
  omega
 have:=mapM_some_get h j j (by rw [List.getElem?_range hj])
 rw [this];exact hv
theorem r_N {w:World}{a:Addr}{v:Value}(h:w.cell? a=some v):a.spot=none:=by
 unfold World.cell? at h
 split at h
 .cases hs:a.spot with
  | none=>rfl
  | some x=>rw [hs] at h;simp at h
 .cases h
theorem m_1 {α:Type}(Q:Nat->α->Prop):∀(len:Nat),(∀i,i<len->∃v,Q i v)->∃l:List α,l.length=len/\∀(i:Nat)(x:α),l[i]? = some x->Q i x
 | 0,_=>⟨[],rfl,λi x h=>by simp at h⟩
 | n+1,h=>by
  obtain ⟨l,hl,hq⟩:=m_1 Q n<|λi hi=>h i (by omega);obtain ⟨v,hv⟩:=h n (by omega);refine ⟨l++[v],by simp [hl],λi x hx=>?_⟩
  by_cases hi:i<l.length
  .rw [List.getElem?_append_left hi] at hx;exact hq i x hx
  .rw [List.getElem?_append_right (by omega)] at hx
   have h1:=(List.getElem?_eq_some_iff.1 hx).1
   simp only [List.length_cons,List.length_nil] at h1
   have h2:i=n:=by omega
   subst h2
   rw [show i - l.length=0 by omega] at hx
   simp at hx
   exact hx ▸ hv
theorem r_O {α:Type}[Dat α]{L:α->Prop}{e:TypeId}(ht:P.underlying t=some (.slice e))(he:IsT P e α L)(hc:P.cellsOf e=sz α)(hb:1<=P.bytesOf e):IsT P t (List α) (λl=>l.length<=LEN/\∀x∈l,L x):=⟨λenc W fuel cs x h hw=>by
 have hr:reachBytes=140737488351232:=rfl;have hL:LEN=140737488355328:=rfl
 rcases DataW.trod_slice ht h with ⟨rfl,rfl⟩ | ⟨a,len,cap,elems,rest,n,_,rfl,rfl,_,hlc,_,hlen,hel,hsp,_⟩
 .exact ⟨[],⟨_,rfl,none,0,rfl,Nat.le_refl _,Nat.zero_le _,λ_=>rfl,λp hp=>by cases hp⟩,by simp,λx hx=>by cases hx⟩
 .obtain ⟨hrl,_⟩:=hsp rfl
  have hw':(elems.length+rest.length) * P.bytesOf e<=reachBytes/\(DataW.weightsAll P e<|elems.map (·.1)).all (· <= reachBytes)=true:=by
   unfold DataW.weights at hw
   rw [ht] at hw
   simp only [List.all_cons,List.all_append,Bool.and_eq_true,decide_eq_true_eq,List.length_map] at hw
   exact ⟨hw.1,hw.2.1⟩
  have hcap:cap<=LEN:=by
   have h1:elems.length+rest.length<=(elems.length+rest.length) * P.bytesOf e:=Nat.le_mul_of_pos_right _ hb
   omega
  have hone:∀i:Nat,i<len->∃v:α,a.spot=none/\a.block<W.heap.size/\(∃cs,E_ W a.block (a.off+i * sz α) cs/\rep W W.heap.size cs v)/\L v:=by
   intro i hi;have h1:=hel i hi;have hie:i<elems.length:=by omega
   rw [List.getElem?_eq_getElem hie] at h1
   cases hcs:W.cells? 0 (a.add<|i * P.cellsOf e) (P.cellsOf e) with
   | none=>rw [hcs] at h1;cases h1
   | some cs =>
    rw [hcs] at h1
    simp only [Option.bind_some] at h1
    obtain ⟨v,hv,hl⟩:=he.rd enc W n cs _ h1<|o_3 hw'.2<|List.mem_map_of_mem<|List.getElem_mem hie;obtain ⟨J,O⟩:=cells?_spec hcs;have hpos:0<cs.length:=by rw [J,hc];exact Dat.pos
    have hsp:a.spot=none:=by
     have G:=hel 0 (by omega)
     rw [List.getElem?_eq_getElem (show 0<elems.length by omega)] at G
     cases H:W.cells? 0 (a.add<|0 * P.cellsOf e) (P.cellsOf e) with
     | none=>rw [H] at G;cases G
     | some I =>
      obtain ⟨V,Y⟩:=cells?_spec H;have hpos0:0<I.length:=by rw [V,hc];exact Dat.pos
      have:=Y 0 I[0] (by rw [List.getElem?_eq_getElem hpos0]);have:=r_N this
      simpa [Addr.add] using this
    have ha:a=⟨a.block,a.off,none⟩:=by cases a;simp only at hsp;rw [hsp]
    have hcells:E_ W a.block (a.off+i * sz α) cs:=by
     intro j u hu;have:=O j u hu
     rw [ha,Addr.add_lit,Addr.add_lit,hc] at this
     exact this
    exact ⟨v,hsp,hcells.lt (by intro h;rw [h] at hpos;cases hpos),⟨cs,hcells,hv⟩,hl⟩
  obtain ⟨l,hll,hq⟩:=m_1 _ len hone;refine ⟨l,⟨_,rfl,some a,cap,by rw [hll],by omega,by omega,λh=>(by cases h),λp hp=>?_⟩,by omega,λx hx=>?_⟩
  .obtain rfl:=Option.some.inj hp;refine ⟨λhne=>?_,λhne=>?_,λi x hx=>(hq i x hx).2.2.1⟩
   .cases l with
    | nil=>exact absurd rfl hne
    | cons y l=>exact (hq 0 y rfl).1
   .cases l with
    | nil=>exact absurd rfl hne
    | cons y l=>exact (hq 0 y rfl).2.1
  .obtain ⟨i,hi⟩:=List.getElem?_of_mem hx
   exact (hq i x hi).2.2.2⟩
structure OkW (P:Program)(W:World)(base:Nat)(t:TypeId)(v:Value):Prop where
 h:Value.okWide P W .any base t v
structure OkWs (P:Program)(W:World)(base:Nat)(ts:Array TypeId)(vs:Array Value):Prop where
 h:∀(j:Nat) t v,ts[j]? = some t->vs[j]? = some v->Value.okWide P W .any base t v
theorem OkWs.at {W:World}{base:Nat}{ts:Array TypeId}{vs:Array Value}(h:OkWs P W base ts vs)(j:Nat)(t:TypeId)(v:Value)(h1:ts[j]? = some t)(h2:vs[j]? = some v):OkW P W base t v:=⟨h.h j t v h1 h2⟩
theorem r_P {W:World}{base:Nat}{t:TypeId}{v:Value}{e:TypeId}(ht:P.underlying t=some (.slice e))(h:OkW P W base t v):∃a n c,v = .slice a n c:=okWide_slice ht h.h
theorem o_5 {H:Type}{enc:TypeId×Value->H}(hl:laidOutB P=true){W W':World}(hb:Below W.heap.size W W'):∀(ts:List TypeId)(vs:List Value)(ds:List (DataW H))(ps:List MemPlace),(∀t∈ts,P.readableRec t=true/\t<P.types.size) ->
  DataW.TrodAll enc P W 0 (λ_=>true) true ts vs ds ps->(∀x∈ps,x.block<W.heap.size)->∀(sp:Nat->Bool),(∀b,b<W.heap.size->sp b=true)->DataW.TrodAll enc P W' 0 sp true ts vs ds ps
 | [],[],[],_,_,h,_,_,_=>h
 | t::ts,v::vs,d::ds,ps,hr,h,hlt,sp,hsp=>by
  obtain ⟨p,q,h1,h2,rfl⟩:=h;refine ⟨p,q,?_,o_5 hl hb ts vs ds q (λt ht=>hr t<|List.mem_cons_of_mem _ ht) h2 (λx hx=>hlt x<|List.mem_append_right _ hx) sp hsp,rfl⟩;have hlp:∀x∈p,x.block<W.heap.size:=λx hx=>hlt x<|List.mem_append_left _ hx
  exact WideElems.Trod_stays hl (hr t List.mem_cons_self).1 (hr t List.mem_cons_self).2 h1 (λx hx=>hb.same<|hlp x hx) (λx hx=>hsp _<|hlp x hx)
 | [],_::_,_,_,_,h,_,_,_=>by cases h
 | [],[],_::_,_,_,h,_,_,_=>by cases h
 | _::_,[],_,_,_,h,_,_,_=>by cases h
 | _::_,_::_,[],_,_,h,_,_,_=>by cases h
theorem r_Q {H:Type}{enc:TypeId×Value->H}{f:Func}{s:ChangeSpec}{apart fresh handsOn again:Bool}{W W':World}{args:Array Value}{ds gs:List (DataW H)}{before:List MemPlace}{tb:TypeId}(hl:laidOutB P=true)(hread:∀t∈f.params.toList,P.readableRec t=true/\t<P.types.size)
  (hb:Below W.heap.size W W') (hW:DataW.Whole enc P f.params.toList s.vars apart W args.toList ds gs before) (hres:f.resultTypes = #[tb]) (htb:P.underlying tb=some .bool) (hvars:s.vars=[]) (hfn:s.fn H (ds++gs)={ results:=[.lit (.bool true)],args:=ds }) :
  s.post enc P f apart fresh handsOn again W args (.bool true) W':=by
 have hlt:∀x∈before,x.block<W.heap.size:=λp hp=>hW.lt p hp
 have hW':=hW;obtain ⟨p,q,hA,hV,rfl,hz,hn⟩:=hW
 rw [hvars] at hV
 obtain ⟨rfl,rfl⟩:=trodVars_none hV;have hA':=λsp hsp=>o_5 hl hb _ _ _ _ hread hA (λx hx=>hlt x (by simpa using hx)) sp hsp
 have hr:∀(b:Nat)(sp:Nat->Bool)(hd:Bool),DataW.TrodAll enc P W' b sp hd f.resultTypes.toList ((Value.bool true).resultList f.resultTypes.size) (s.fn H<|ds++[]).results []:=λb sp hd=>by
  rw [hfn,hres];exact trodAll_cons_mk (shut_bool htb _) trodAll_mk0
 have hvs:∀sp:Nat->Bool,DataW.TrodVars enc P W' sp s.vars (s.fn H<|ds++[]).vars []:=λsp=>by rw [hfn,hvars];rfl
 refine ⟨ds,[],p++[],[],p,[],hW',hr _ _ _,by rw [hfn];exact hA' _ (λb hb=>by simpa using hb),hvs _,hb.frame _,λ_=>⟨?_,([.lit (.bool true)]:List (DataW H))++ds,[],([]++p)++[],⟨[]++p,[],?_,?_,rfl,?_,?_⟩,?_⟩⟩
 .exact ok_one hres rfl<|okWide_bool_mk htb _
 .have h1:=hr 0 (λ_=>true) true
  rw [hfn] at h1
  exact trodAll_append (hA' _<|λ_ _=>rfl) h1
 .rw [hvars];rfl
 .intro b off hp;have hp':MemPlace.cell b off∈p++[]:=by simpa using hp
  have:=hlt _ hp'
  rw [hb.frozen (p:=⟨b,off,none⟩) this]
  exact hz b off hp'
 .intro ha;have:=hn ha;simpa using this
 .intro x hx _;simpa using hx
end
end Go.Vw
namespace Go.Vw
open Go.RowKit Dat
theorem u_x {x y:Int}(h1 : -9223372036854775808<=x+y)(h2:x+y<=9223372036854775807):d_ x y=x+y:=by
 unfold d_;rw [IntKind.wrap_i64];omega
theorem a_f {x y:Int}(h1 : -9223372036854775808<=x - y)(h2:x - y<=9223372036854775807):h_ x y=x - y:=by
 unfold h_;rw [IntKind.wrap_i64];omega
theorem c_D {x y:Int}(h1 : -9223372036854775808<=x * y)(h2:x * y<=9223372036854775807):U_ x y=x * y:=by
 unfold U_;rw [IntKind.wrap_i64];omega
theorem n_9 {x y:Int}(G:0<=x)(hx:x<=9223372036854775807)(hy:0<y):b_O x y=x / y:=by
 unfold b_O
 rw [Int.tdiv_eq_ediv_of_nonneg G,IntKind.wrap_i64]
 have h1:=Int.ediv_nonneg G<|Int.le_of_lt hy;have h2:=Int.ediv_le_self y G
 omega
theorem c_E {x y:Int}(G:0<=x):a_d x y=x % y:=by
 unfold a_d;exact Int.tmod_eq_emod_of_nonneg G
theorem h_A {a b:UInt8}:byteI a=byteI b ↔ a=b:=by
 unfold byteI
 constructor
 .intro h;have:a.toNat=b.toNat:=by omega
  exact UInt8.toNat_inj.1 this
 .rintro rfl;rfl
section
variable {α:Type}
theorem n_a {l:List α}{k:Nat}(h:k<l.length):idx l (k:Int)=some l[k]:=by rw [q_F];simp [h]
theorem d_T {l:List α}{i:Int}(G:0<=i)(h:i.toNat<l.length):idx l i=some l[i.toNat]:=by
 unfold idx;rw [if_pos G];simp [h]
theorem b_n {l:List α}(h:0<l.length):idx l 0=some l[0]:=n_a (k:=0) h
theorem n_b {l:List α}(h:1<l.length):idx l 1=some l[1]:=n_a (k:=1) h
theorem e_p {l:List α}{a b:Int}(G:0<=a)(h1:a<=b)(h2:b<=l.length):slc l a b=some ((l.take b.toNat).drop a.toNat):=by
 unfold slc;rw [if_pos ⟨G,h1,h2⟩]
theorem O_ {l:List α}{x:α}(h:l.length<LIM):psh l x=some (l++[x]):=by unfold psh;rw [if_pos h]
theorem a_A {l m:List α}(h:l.length+m.length<=LIM):app l m=some (l++m):=by unfold app;rw [if_pos h]
theorem i_W {s t:Str}(h:s.b.length+t.b.length<=LIM):cat s t=some ⟨s.b++t.b⟩:=by unfold cat;rw [if_pos h]
theorem n_c {l:List α}{k:Nat}{x:α}(h:k<l.length):upd l (k:Int) x=some (l.set k x):=by
 unfold upd;rw [if_pos ⟨by omega,by omega⟩];rfl
theorem k_S {z:α}{n:Nat}(h:n<=LIM):mk0 z (n:Int)=some (List.replicate n z):=by
 unfold mk0;rw [if_pos ⟨by omega,by omega⟩];simp
theorem u_y {z:α}{n:Int}(G:0<=n)(h:n<=LIM):mk0 z n=some (List.replicate n.toNat z):=by
 unfold mk0;rw [if_pos ⟨G,h⟩]
end
section
variable {σ ρ:Type}
theorem p_W {body:Nat->σ->Option (Out σ ρ)}(st:Nat->σ):∀n k,(∀j,k<=j->j<k+n->body j (st j)=some (.next<|st<|j+1))->t_ body n k (st k)=some (.inl<|st<|k+n)
 | 0,k,_=>rfl
 | n+1,k,h=>by
  have h1:=h k (Nat.le_refl _) (by omega);have h2:=p_W st n (k+1)<|λj a b=>h j (by omega) (by omega);unfold t_
  rw [h1]
  simp only
  rw [h2,show k+1+n=k+(n+1) by omega]
theorem d_g {body:Nat->σ->Option (Out σ ρ)}(st:Nat->σ){n:Nat}(h:∀j,j<n->body j (st j)=some (.next<|st<|j+1)):t_ body n 0 (st 0)=some (.inl<|st n):=by
 have:=p_W st n 0<|λj _ b=>h j (by omega)
 simpa using this
theorem forN_ret' {body:Nat->σ->Option (Out σ ρ)}(st:Nat->σ){r:ρ}:∀n k j0,k<=j0->j0<k+n->(∀j,k<=j->j<j0->body j (st j)=some (.next<|st<|j+1))->body j0 (st j0)=some (.ret r)->t_ body n k (st k)=some (.inr r)
 | 0,k,j0,a,b,_,_=>by omega
 | n+1,k,j0,a,b,h,hr=>by
  unfold t_
  by_cases hk:k=j0
  .subst hk;rw [hr]
  .rw [h k (Nat.le_refl _) (by omega)]
   exact forN_ret' st n (k+1) j0 (by omega) (by omega) (λj c d=>h j (by omega) d) hr
theorem p_X {body:Nat->σ->Option (Out σ ρ)}(st:Nat->σ){r:ρ}{n j0:Nat}(G:j0<n)(h:∀j,j<j0->body j (st j)=some (.next<|st<|j+1))(hr:body j0 (st j0)=some (.ret r)):t_ body n 0 (st 0)=some (.inr r) :=
 forN_ret' st n 0 j0 (by omega) (by omega) (λj _ b=>h j b) hr
theorem h_B {body:Nat->Unit->Option (Out Unit ρ)}{n:Nat}(p:Nat->Bool)(r:Nat->ρ)(h:∀k,k<n->(∀j,j<k->p j=false)->body k ()=some (if p k then .ret (r k) else .next ())) :
  t_ body n 0 ()=some (match (List.range n).find? p with | some k=>.inr (r k) | none=>.inl ()):=by
 cases hf:(List.range n).find? p with
 | none =>
  have hn:∀k,k<n->p k=false:=λk hk=>by
   have:=List.find?_eq_none.1 hf k<|List.mem_range.2 hk
   simpa using this
  exact d_g (λ_=>()) (λj hj=>by rw [h j hj (λi hi=>hn i (by omega)),hn j hj];rfl)
 | some k =>
  obtain ⟨hp,as,bs,hl,has⟩:=List.find?_eq_some_iff_append.1 hf
  have hk:as.length<n/\as.length=k:=by
   have h1:as.length<(List.range n).length:=by rw [hl];simp
   simp at h1
   refine ⟨h1,?_⟩;have h2:(List.range n)[as.length]? = some k:=by rw [hl];simp
   rw [List.getElem?_range h1] at h2
   exact Option.some.inj h2
  obtain ⟨h1,rfl⟩:=hk
  have hb:∀j,j<as.length->p j=false:=λj hj=>by
   have h2:(List.range n)[j]? = some (as[j]):=by rw [hl,List.getElem?_append_left hj];simp
   rw [List.getElem?_range (by omega)] at h2
   have h3:=has as[j] (List.getElem_mem hj)
   rw [← Option.some.inj h2] at h3
   simpa using h3
  exact p_X (λ_=>()) h1 (λj hj=>by rw [h j (by omega) (λi hi=>hb i (by omega)),hb j hj];rfl) (by rw [h _ h1 hb,if_pos hp])
theorem u_z {α:Type}(l:List α)(p:α->Bool)(q:Nat->Bool)(h:∀k (hk:k<l.length),q k=p l[k]):(List.range l.length).any q=l.any p:=by
 rw [Bool.eq_iff_iff]
 simp only [List.any_eq_true,List.mem_range]
 constructor
 .rintro ⟨k,hk,hq⟩;exact ⟨l[k],List.getElem_mem hk,by rw [← h k hk];exact hq⟩
 .rintro ⟨x,hx,hp⟩;obtain ⟨k,hk,rfl⟩:=List.getElem_of_mem hx;exact ⟨k,hk,by rw [h k hk];exact hp⟩
theorem e_q {body:Nat->Unit->Option (Out Unit ρ)}{n:Nat}(p:Nat->Bool)(r:ρ)(h:∀k,k<n->(∀j,j<k->p j=false)->body k ()=some (if p k then .ret r else .next ())) :
  t_ body n 0 ()=some (if (List.range n).any p then .inr r else .inl ()):=by
 rw [h_B p (λ_=>r) h]
 cases hf:(List.range n).find? p with
 | none =>
  have:(List.range n).any p=false:=by
   rw [List.any_eq_false];exact λx hx=>by simpa using List.find?_eq_none.1 hf x hx
  rw [this];rfl
 | some k =>
  have:(List.range n).any p=true:=List.any_eq_true.2 ⟨k,List.mem_of_find?_eq_some hf,List.find?_some hf⟩
  rw [this];rfl
theorem d_U {α:Type}{body:Nat->Unit->Option (Out Unit ρ)}{l:List α}(p:α->Bool)(r:ρ)(h:∀k (hk:k<l.length),body k ()=some (if p l[k] then .ret r else .next ())) :
  t_ body l.length 0 ()=some (if l.any p then .inr r else .inl ()):=by
 rw [e_q (λk=>if hk:k<l.length then p l[k] else false) r (λk hk _=>by rw [dif_pos hk];exact h k hk)]
 rw [u_z l p _ (λk hk=>by rw [dif_pos hk])]
theorem iter_brk' {step:σ->Option (Out σ ρ)}(st:Nat->σ){s:σ}:∀m k j0,k<=j0->j0<k+m->(∀j,k<=j->j<j0->step (st j)=some (.next<|st<|j+1))->step (st j0)=some (.brk s)->C_ step m (st k)=some (.inl s)
 | 0,k,j0,a,b,_,_=>by omega
 | m+1,k,j0,a,b,h,hr=>by
  unfold C_
  by_cases hk:k=j0
  .subst hk;rw [hr]
  .rw [h k (Nat.le_refl _) (by omega)]
   exact iter_brk' st m (k+1) j0 (by omega) (by omega) (λj c d=>h j (by omega) d) hr
theorem n_d {step:σ->Option (Out σ ρ)}(st:Nat->σ){s:σ}{m j0:Nat}(G:j0<m)(h:∀j,j<j0->step (st j)=some (.next<|st<|j+1))(hr:step (st j0)=some (.brk s)):C_ step m (st 0)=some (.inl s) :=
 iter_brk' st m 0 j0 (by omega) (by omega) (λj _ b=>h j b) hr
theorem iter_ret' {step:σ->Option (Out σ ρ)}(st:Nat->σ){r:ρ}:∀m k j0,k<=j0->j0<k+m->(∀j,k<=j->j<j0->step (st j)=some (.next<|st<|j+1))->step (st j0)=some (.ret r)->C_ step m (st k)=some (.inr r)
 | 0,k,j0,a,b,_,_=>by omega
 | m+1,k,j0,a,b,h,hr=>by
  unfold C_
  by_cases hk:k=j0
  .subst hk;rw [hr]
  .rw [h k (Nat.le_refl _) (by omega)]
   exact iter_ret' st m (k+1) j0 (by omega) (by omega) (λj c d=>h j (by omega) d) hr
theorem u_A {step:σ->Option (Out σ ρ)}(st:Nat->σ){r:ρ}{m j0:Nat}(G:j0<m)(h:∀j,j<j0->step (st j)=some (.next<|st<|j+1))(hr:step (st j0)=some (.ret r)):C_ step m (st 0)=some (.inr r) :=
 iter_ret' st m 0 j0 (by omega) (by omega) (λj _ b=>h j b) hr
end
theorem p_Y {s:Str}{p:Nat}(h:p<s.b.length)(ha:s.b[p].toNat<128):dec s p=((s.b[p].toNat:Int),1):=by
 have h':p<(⟨s.b.toArray⟩:ByteArray).size:=by simpa [ByteArray.size] using h
 have hb:(⟨s.b.toArray⟩:ByteArray)[p]'h'=s.b[p]:=rfl;unfold dec
 rw [decode_ascii _ p h' (by rw [hb];exact ha),hb]
theorem u_B {s:Str}{p:Nat}(h:p<s.b.length)(ha:128<=s.b[p].toNat):128<=(dec s p).1:=by
 have h':p<(⟨s.b.toArray⟩:ByteArray).size:=by simpa [ByteArray.size] using h
 have hb:(⟨s.b.toArray⟩:ByteArray)[p]'h'=s.b[p]:=rfl;unfold dec;have:=(decode_high _ p h' (by rw [hb];exact ha)).1
 simp only
 omega
abbrev bF_:=@Bool.false_eq_true
abbrev dT_:=@decide_eq_true
abbrev dF_:=@decide_eq_false
abbrev bQ_:=@beq_self_eq_true
abbrev mT_:=@List.mem_cons_of_mem
abbrev mS_:=@List.mem_cons_self
abbrev gE_:=@List.getElem_mem
abbrev oI_:=@Option.some.injEq
abbrev gG_:=@List.getElem?_eq_getElem
abbrev gD_:=@List.getD_eq_getElem?_getD
abbrev aE_:=@Bool.and_eq_true
abbrev dE_:=@decide_eq_true_eq
abbrev tN_:=@Int.toNat_natCast
abbrev gS_:=@List.getElem?_eq_some_iff
abbrev iP_:=@if_pos
abbrev iN_:=@if_neg
abbrev fF_:=@if_false
abbrev fT_:=@if_true
abbrev gN_:=@List.getElem?_eq_none
abbrev nT_:=@Bool.not_true
abbrev ix_:=@n_a
abbrev ia_:=@u_x
abbrev lC_:=@List.length_cons
abbrev bN_:=@bne_self_eq_false
abbrev dC_:=@List.drop_eq_getElem_cons
end Go.Vw
