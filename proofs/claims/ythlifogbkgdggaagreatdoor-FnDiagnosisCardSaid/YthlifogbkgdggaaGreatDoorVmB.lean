/- Texts of this claim, put together. -/
import Derived.Test.YthlifogbkgdggaaGreatDoorVmA
import Derived.Carry
import Derived.Deep.DeepHandedRow
import Derived.WalkKit
import Derived.ProofKit
import Derived.OpenShut
import Derived.Stop.LaidErr
import Derived.Laws.RangeAny
set_option linter.unusedVariables false
namespace Go.Vw
def e_4 (n:Nat)(x1:d_)(x2:List UInt8):Option (Int×Int) :=
 bd3 (f_J n x1 x2) fun I G H=>some (G,H)
def d_v (n:Nat)(x1:d_)(x2:List UInt8):Option (Int×Int) :=
 bd (d_g x1) fun I=>bd2 (c_N n x1 I x2 0) fun G H=>bd (α:=Bool) (if (!decide (((⟨G,H⟩:D_):D_)=((⟨(x2.length:Int),0⟩:D_):D_)))=true then some (H==0) else some false) (fun J=>if J=true then some (G,7) else some (G,H))
def g_C (x1:Int)(x2:Int):Option Bool :=
 some (x1==x2)
def f_3 (x1:List Int)(G:Int):Option Int :=
 bd (y_ (σ:=Unit) (ρ:=Int) (fun k10=>(fun (_:Unit)=>bd (idx x1 (k10:Int)) fun H=>bd (g_C H G) fun I=>if I=true then some (.ret (k10:Int)) else some (.next ()))) x1.length 0 ()) (el (fun (_:Unit)=>some (-1))<|fun J=>some J)
structure f_4 where
 impl_tracer_part:b_6->Str->Int->Int->Option (Str×Int)
 impl_tracer_kids:b_6->Str->Int->(List Int)->Int->Option (Int×Bool×Str×Int)
def d_w (n:Nat)(rec:f_4)(x1:b_6)(x2:Str)(x3:Int)(x4:Int):Option (Str×Int) :=
 bd (idx x1.d.rules x3) fun G=>bd (α:=Bool) (if (G.kind==6)=true then some (G.kind==6) else some (G.kind==9)) (fun V=>bd (α:=Sum (Str×Int)<|Str×Int) (if V=true then bd4 (rec.impl_tracer_kids (⟨(⟨x1.d.rules⟩:d_),x1.b,x2,x3⟩:b_6) x2 x3 G.kids x4) fun aA aB W Y=>some (.inl (W,Y)) else bd (α:=Sum (Str×Int)<|Sum (Str×Int)<|Str×Int) (if (G.kind==8)=true then bd (α:=Bool) (if (decide<|x4<(x1.b.length:Int))=true then bd (idx x1.b x4) fun a0=>some ((byteI a0)==(byteI (1:UInt8))) else some false) (fun a1=>bd (α:=Str×Int) (if a1=true then bd4 (rec.impl_tracer_kids (⟨(⟨x1.d.rules⟩:d_),x1.b,x2,x3⟩:b_6) x2 x3 G.kids<|h_ x4 1) fun aC aD a2 a3=>some (a2,a3) else some (x2,x3))<|un2 fun a4 a5=>some<|.inl (a4,a5)) else bd (α:=Bool) (if (G.kind==5)=true then some (G.kind==5) else some (G.kind==7)) (fun a6=>bd (α:=Sum (Str×Int)<|Sum (Str×Int)<|Sum (Str×Int)<|Str×Int) (if a6=true then bd (idx G.kids 0) fun a7=>bd2 (c_N n (⟨x1.d.rules⟩:d_) a7 x1.b x4) fun H a8=>if (a8 != 0)=true then some (.inr<|.inr<|.inr (x2,x3)) else bd (α:=Int) (bd (slc x1.b x4 H) fun a9=>bd (idx G.kids 0) fun aa=>bd (idx x1.d.rules aa) fun ab=>bd (d_N a9 ab.little) fun ad=>some ad) (fun I=>if (G.kind==7)=true then bd (f_3 G.tags I) fun J=>bd (α:=Str×Int) (if (decide<|0<=J)=true then bd (slc G.kids (h_ J 1)<|h_ J 2) fun ae=>bd4 (rec.impl_tracer_kids (⟨(⟨x1.d.rules⟩:d_),x1.b,x2,x3⟩:b_6) x2 x3 ae H) fun aE aF af ah=>some (af,ah) else some (x2,x3)) (un2 fun ai aj=>some<|.inr<|.inr<|.inr (ai,aj)) else bd (α:=Sum (Str×Int)<|Sum (Str×Int)<|Sum (Str×Int)<|Sum (Str×Int)<|Str×Int) (if (decide<|I<=40)=true then bd (mk0 0 I) fun O=>bd (y_ (σ:=List Int) (ρ:=Str×Int) (fun ak=>(fun L=>bd (idx G.kids 1) fun al=>bd (upd L (ak:Int) al) fun am=>some<|.next am)) O.length 0 O) (el (fun L=>bd4 (rec.impl_tracer_kids (⟨(⟨x1.d.rules⟩:d_),x1.b,x2,x3⟩:b_6) x2 x3 L H) fun aG aH an ao=>some<|.inl (an,ao))<|fun ap=>some<|.inr<|.inr<|.inr<|.inr ap) else some (.inl (x2,x3))) (el (un2 fun aq ar=>some<|.inl (aq,ar)) some)) else some (.inl (x2,x3)))<|el (un2 fun au av=>some<|.inl (au,av)) some)) (el (un2 fun aw ax=>some<|.inl (aw,ax)) some))<|el (un2 fun ay az=>some (ay,az)) some)
def d_x (n:Nat)(rec:f_4)(x1:b_6)(x2:Str)(x3:Int)(x4:List Int)(x5:Int):Option (Int×Bool×Str×Int) :=
 bd (y_ (σ:=Int) (ρ:=Int×Bool×Str×Int) (fun H=>(fun G=>bd (idx x4 (H:Int)) fun I=>bd2 (c_N n (⟨x1.d.rules⟩:d_) I x1.b G) fun J L=>if (L != 0)=true then bd (cat x2 (⟨[47]⟩:Str)) fun O=>bd (e_y n (⟨x1.d.rules⟩:d_) x3 (H:Int)) fun V=>bd (cat O V) fun W=>bd2 (rec.impl_tracer_part x1 W I G) fun Y a0=>some (.ret (G,false,Y,a0)) else some (.next J))) x4.length 0 x5) (el (fun G=>some (G,true,x1.path,x1.rule))<|fun a1=>some a1)
def a_S:Nat->f_4
 | 0=>⟨fun _ _ _ _=>none,fun _ _ _ _ _=>none⟩
 | n+1=>⟨d_w n<|a_S n,d_x n<|a_S n⟩
def j_A (n:Nat):=(a_S n).impl_tracer_part
def f_5 (n:Nat)(x1:d_)(x2:List UInt8):Option a_n :=
 bd2 (d_v n x1 x2) fun H G=>bd (d_g x1) fun I=>bd (α:=Str×Int) (if (G==8)=true then some ((⟨[]⟩:Str),(-1)) else bd (α:=Bool) (if (G==0)=true then some (G==0) else some (G==7)) (fun J=>bd (α:=Str×Int) (if J=true then some ((⟨[]⟩:Str),I) else bd (d_g x1) fun L=>bd2 (j_A n (⟨(⟨x1.rules⟩:d_),x2,(⟨[]⟩:Str),0⟩:b_6) (⟨[]⟩:Str) L 0) fun O V=>some (O,V))<|un2 fun W Y=>some (W,Y)))<|un2 fun a0 a1=>some (⟨G,H,a0,a1⟩:a_n)
end Go.Vw
namespace Go.Vw
structure j_l where
 spec_l28Find:d_->Int->(List UInt8)->Int->Str->Option (Str×Int)
def c_z (n:Nat)(rec:j_l)(x1:d_)(x2:Int)(x3:List UInt8)(x4:Int)(x5:Str):Option (Str×Int) :=
 bd (idx x1.rules x2) fun G=>bd3 (d_I x1 G x3 x4) fun L O V=>bd (y_ (σ:=Int) (ρ:=Str×Int) (fun I=>(fun H=>bd (b_z G V (I:Int)) fun J=>bd3 (e_v n x1 J x3 H) fun a6 W Y=>if (Y != 0)=true then bd (cat x5 (⟨[47]⟩:Str)) fun a0=>bd (f_z n G (I:Int)) fun a1=>bd (cat a0 a1) fun a2=>bd2 (rec.spec_l28Find x1 J x3 H a2) fun a3 a4=>some (.ret (a3,a4)) else some (.next W))) O.toNat 0 L)<|el (fun H=>some (x5,x2))<|fun a5=>some a5
def b_L:Nat->j_l
 | 0=>⟨fun _ _ _ _ _=>none⟩
 | n+1=>⟨c_z n<|b_L n⟩
def j_m (n:Nat):=(b_L n).spec_l28Find
def e_N (n:Nat)(x1:d_)(x2:List UInt8):Option a_n :=
 bd2 (e_4 n x1 x2) fun H G=>bd (d_H x1) fun I=>bd (α:=Str×Int) (if (G==8)=true then some ((⟨[]⟩:Str),(-1)) else bd (α:=Bool) (if (G==0)=true then some (G==0) else some (G==7)) (fun J=>bd (α:=Str×Int) (if J=true then some ((⟨[]⟩:Str),I) else bd (d_H x1) fun L=>bd2 (j_m n x1 L x2 0 (⟨[]⟩:Str)) fun O V=>some (O,V))<|un2 fun W Y=>some (W,Y)))<|un2 fun a0 a1=>some (⟨G,H,a0,a1⟩:a_n)
def e_O (x1:Int):Option Str :=
 bd (a_s x1 0<|G_ ([(⟨[111,107]⟩:Str),(⟨[115,104,111,114,116]⟩:Str),(⟨[99,111,110,115,116]⟩:Str),(⟨[116,97,103]⟩:Str),(⟨[102,108,97,103]⟩:Str),(⟨[115,117,109]⟩:Str),(⟨[99,111,117,110,116]⟩:Str),(⟨[116,114,97,105,108,105,110,103]⟩:Str),(⟨[114,117,108,101]⟩:Str)].length:Int) 1) fun G=>if (!G)=true then some (⟨[]⟩:Str) else bd (idx [(⟨[111,107]⟩:Str),(⟨[115,104,111,114,116]⟩:Str),(⟨[99,111,110,115,116]⟩:Str),(⟨[116,97,103]⟩:Str),(⟨[102,108,97,103]⟩:Str),(⟨[115,117,109]⟩:Str),(⟨[99,111,117,110,116]⟩:Str),(⟨[116,114,97,105,108,105,110,103]⟩:Str),(⟨[114,117,108,101]⟩:Str)] x1) fun H=>some H
def d_V (n:Nat)(x1:Int)(x2:Int):Option Str :=
 if (x2==0)=true then some (⟨[111,107]⟩:Str) else bd (e_O x2) fun G=>bd (cat G (⟨[32,97,116,32]⟩:Str)) fun H=>bd (b_d n x1) fun I=>bd (cat H I) fun J=>some J
def c_A (n:Nat)(x1:d_)(x2:a_n):Option Str :=
 bd (d_V n x2.position x2.code) fun G=>if (x2.code==0)=true then some G else bd (α:=Str) (if (x2.path.b != (⟨[]⟩:Str).b)=true then bd (cat G (⟨[32,105,110,32]⟩:Str)) fun I=>bd (cat I x2.path) fun J=>some J else some G) (fun H=>bd (a_s x2.rule 0<|G_ (x1.rules.length:Int) 1) fun L=>bd (α:=Str) (if L=true then bd (cat H (⟨[32,40]⟩:Str)) fun O=>bd (idx x1.rules x2.rule) fun V=>bd (cat O V.name) fun W=>bd (cat W (⟨[41]⟩:Str)) fun Y=>some Y else some H)<|fun a0=>some a0)
def d_W (x1:Int):Option Str :=
 bd (b_p x1 0 8) fun G=>if (!G)=true then some (⟨[]⟩:Str) else bd (idx [(⟨[111,107]⟩:Str),(⟨[115,104,111,114,116]⟩:Str),(⟨[99,111,110,115,116]⟩:Str),(⟨[116,97,103]⟩:Str),(⟨[102,108,97,103]⟩:Str),(⟨[115,117,109]⟩:Str),(⟨[99,111,117,110,116]⟩:Str),(⟨[116,114,97,105,108,105,110,103]⟩:Str),(⟨[114,117,108,101]⟩:Str)] x1) fun H=>some H
def g_g (x1:Int)(x2:Int):Option Str :=
 if (x2==0)=true then bd (d_W x2) fun G=>some G else bd (d_W x2) fun H=>bd (cat H (⟨[32,97,116,32]⟩:Str)) fun I=>bd (c_a x1) fun J=>bd (cat I J) fun L=>some L
def d_n (x1:d_)(x2:a_n):Option Str :=
 if (x2.code==0)=true then some (⟨[111,107]⟩:Str) else bd (g_g x2.position x2.code) fun G=>bd (α:=Str) (if (x2.path.b != (⟨[]⟩:Str).b)=true then bd (cat (⟨[32,105,110,32]⟩:Str) x2.path) fun I=>bd (cat G I) fun J=>some J else some G) (fun H=>bd (b_T x1 x2.rule) fun L=>bd (α:=Str) (if L=true then bd (idx x1.rules x2.rule) fun O=>bd (cat (⟨[32,40]⟩:Str) O.name) fun V=>bd (cat V (⟨[41]⟩:Str)) fun W=>bd (cat H W) fun Y=>some Y else some H)<|fun a0=>some a0)
end Go.Vw
namespace Go.Vw
def f_Y (x1:List Str)(x2:Str):Option Str :=
 bd (y_ (σ:=Str) (ρ:=Str) (fun H=>(fun G=>bd (α:=Str) (if (decide<|0<(H:Int))=true then bd (cat G x2) fun I=>some I else some G)<|fun J=>bd (idx x1 (H:Int)) fun L=>bd (cat J L) fun O=>some<|.next O)) x1.length 0 (⟨[]⟩:Str)) (el (fun G=>some G)<|fun V=>some V)
end Go.Vw
namespace Go.Vw
def e_M (x1:n_)(x2:List UInt8):Option ((List UInt8)×Int×Int) :=
 bd (app ([]:List UInt8) x2) fun G=>bd3 (a_1 x1 6) fun J H I=>bd (α:=(List UInt8)×Int×Int) (if (J==0)=true then bd (α:=(List UInt8)×Int×Int) (if (decide<|0<(G.length:Int))=true then bd3 (a_1 (⟨x1.b,H,I⟩:n_) (G.length:Int)) fun L O V=>bd3 (a_1 (⟨x1.b,O,V⟩:n_) 256) fun W Y a0=>bd (upd G L<|mkB W) fun a1=>some (a1,Y,a0) else some (G,H,I)) (un3 fun a2 a3 a4=>some (a2,a3,a4)) else bd (α:=(List UInt8)×Int×Int) (if (J==1)=true then bd3 (a_1 (⟨x1.b,H,I⟩:n_)<|h_ (G.length:Int) 1) fun a5 a6 a7=>bd (slc G 0 a5) fun a8=>some (a8,a6,a7) else bd (α:=(List UInt8)×Int×Int) (if (J==2)=true then bd3 (c_T (⟨x1.b,H,I⟩:n_) [0,1,128,255]) fun a9 aa ab=>bd (psh G<|mkB a9) fun ad=>some (ad,aa,ab) else some (G,H,I)) (un3 fun ae af ah=>some (ae,af,ah))) (un3 fun ai aj ak=>some (ai,aj,ak)))<|un3 fun al am an=>some (al,am,an)
end Go.Vw
namespace Go.Vw
open Go.RowKit Dat
structure j_c where
 kind:Int
 at_:Int
 byte:Int
deriving DecidableEq,Inhabited
instance:Dat j_c:=Dat.via<|fun r=>(r.kind,r.at_,r.byte)
instance:a_7 j_c:=⟨fun h=>a_7.flat (α:=Int×Int×Int) h,fun h=>a_7.none (α:=Int×Int×Int) h⟩
end Go.Vw
namespace Go.Vw
def f_1 (n:Nat)(x1:n_):Option (d_×(List UInt8)×Int×Int) :=
 bd3 (e_I n x1) fun G a1 a2=>bd3 (h_r n (⟨x1.b,a1,a2⟩:n_) G (G_ (G.rules.length:Int) 1) 8) fun a3 O V=>bd (h_s n G (G_ (G.rules.length:Int) 1) a3) fun H=>bd (α:=Bool×Int×Int) (if (decide<|0<(H.length:Int))=true then bd3 (c_S (⟨x1.b,O,V⟩:n_) 3) fun a4 a5 a6=>some (a4,a5,a6) else some (false,O,V)) (un3 fun a7 W Y=>bd (α:=(List UInt8)×Int×Int) (if a7=true then bd3 (e_M (⟨x1.b,W,Y⟩:n_) H) fun a8 a9 aa=>some (a8,a9,aa) else some (H,W,Y)) (un3 fun a0 ab ad=>bd3 (a_1 (⟨x1.b,ab,ad⟩:n_) 24) fun I J L=>bd (α:=(List UInt8)×Int×Int) (if (I==0)=true then bd3 (a_1 (⟨x1.b,J,L⟩:n_) 2) fun ae af ah=>bd (mk0 (0:UInt8)<|h_ 400 ae) fun ai=>some (ai,af,ah) else bd (α:=(List UInt8)×Int×Int) (if (I==1)=true then bd3 (a_1 (⟨x1.b,J,L⟩:n_) 8) fun aj ak al=>bd3 (c_x (⟨x1.b,ak,al⟩:n_) aj) fun am an ao=>some (am,an,ao) else bd (α:=List UInt8) (if (I==2)=true then bd (psh a0 (92:UInt8)) fun ap=>some ap else some a0) (fun aq=>some (aq,J,L))) (un3 fun ar au av=>some (ar,au,av)))<|un3 fun aw ax ay=>some (G,aw,ax,ay)))
end Go.Vw
namespace Go.Vw
def g_6 (x1:Int)(x2:Int):Option Bool :=
 some (decide<|x2<x1)
def g_7 (x2:Int)(x3:List Int):Option Int :=
 bd (y_ (σ:=Int) (ρ:=Int) (fun I=>(fun G=>bd (idx x3 (I:Int)) fun H=>bd (g_6 H G) fun J=>bd (α:=Int) (if J=true then some H else some G)<|fun L=>some<|.next L)) x3.length 0 x2) (el (fun G=>some G)<|fun O=>some O)
def e_F (x1:Int)(x2:Int):Option Int :=
 bd (g_7 x1 [x2]) fun G=>some G
end Go.Vw
namespace Go.Vw
def g_w (n:Nat)(x1:List UInt8):Option (d_×(List UInt8)) :=
 bd (e_H n x1) fun G=>bd4 (f_1 n G) fun H I J L=>some (H,I)
def e_S (x1:d_)(x2:a_n):Option Str :=
 bd (b_T x1 x2.rule) fun I=>if (!I)=true then some (⟨[]⟩:Str) else if (x2.code==2)=true then bd (idx x1.rules x2.rule) fun J=>bd (g_1 J.bytes) fun L=>some L else if (x2.code==3)=true then bd (idx x1.rules x2.rule) fun H=>bd (y_ (σ:=List Str) (ρ:=Str) (fun O=>(fun G=>bd (idx H.tags (O:Int)) fun V=>bd (c_a V) fun W=>bd (psh G W) fun Y=>some<|.next Y)) H.tags.length 0 ([]:List Str)) (el (fun G=>bd (g_0 G (⟨[44]⟩:Str)) fun a0=>some a0)<|fun a1=>some a1) else if (x2.code==4)=true then some (⟨[48,32,111,114,32,49]⟩:Str) else if (x2.code==6)=true then bd (c_a 40) fun a2=>bd (cat (⟨[97,116,32,109,111,115,116,32]⟩:Str) a2) fun a3=>some a3 else if (x2.code==7)=true then some (⟨[116,104,101,32,101,110,100]⟩:Str) else some (⟨[]⟩:Str)
def e_T (n:Nat)(x1:d_)(x2:a_n):Option Str :=
 bd (a_s x2.rule 0<|G_ (x1.rules.length:Int) 1) fun I=>if (!I)=true then some (⟨[]⟩:Str) else bd (idx x1.rules x2.rule) fun G=>if (x2.code==2)=true then bd (f_Z G.bytes) fun J=>some J else if (x2.code==3)=true then bd (y_ (σ:=List Str) (ρ:=Str) (fun L=>(fun H=>bd (idx G.tags (L:Int)) fun O=>bd (b_d n O) fun V=>bd (psh H V) fun W=>some<|.next W)) G.tags.length 0 ([]:List Str)) (el (fun H=>bd (f_Y H (⟨[44]⟩:Str)) fun Y=>some Y)<|fun a0=>some a0) else if (x2.code==4)=true then some (⟨[48,32,111,114,32,49]⟩:Str) else if (x2.code==6)=true then bd (b_d n 40) fun a1=>bd (cat (⟨[97,116,32,109,111,115,116,32]⟩:Str) a1) fun a2=>some a2 else if (x2.code==7)=true then some (⟨[116,104,101,32,101,110,100]⟩:Str) else some (⟨[]⟩:Str)
def c_W (n:Nat)(x1:d_)(x2:List UInt8):Option Bool :=
 bd2 (d_v n x1 x2) fun _ G=>some<|G==1
def e_U (x1:List Int)(x2:g_):Option Int :=
 bd (y_ (σ:=Int) (ρ:=Int) (fun H=>(fun G=>bd (idx x2.kids (H:Int)) fun I=>bd (idx x1 I) fun J=>some<|.next<|h_ G J)) x2.kids.length 0 0) (el (fun G=>some G)<|fun L=>some L)
def e_V (x1:List Int)(x2:g_):Option Int :=
 bd (idx x2.kids 1) fun I=>bd (idx x1 I) fun J=>bd (slc x2.kids 2 (x2.kids.length:Int)) fun H=>bd (y_ (σ:=Int) (ρ:=Int) (fun L=>(fun G=>bd (idx H (L:Int)) fun O=>bd (idx x1 O) fun V=>bd (d_P G V) fun W=>some<|.next W)) H.length 0 J)<|el (fun G=>some G)<|fun Y=>some Y
def e_W (x1:d_):Option (List Int) :=
 bd (y_ (σ:=List Int) (ρ:=List Int) (fun I=>(fun H=>bd (idx x1.rules (I:Int)) fun G=>bd (α:=Bool) (if (G.kind==1)=true then some (G.kind==1) else some (G.kind==3)) (fun J=>bd (α:=Int) (if J=true then some G.size else bd (α:=Int) (if (G.kind==2)=true then some (G.bytes.length:Int) else bd (α:=Bool) (if (G.kind==4)=true then some (G.kind==4) else some (G.kind==5)) (fun L=>bd (α:=Int) (if L=true then bd (idx G.kids 0) fun O=>bd (idx H O) fun V=>some V else bd (α:=Int) (if (G.kind==6)=true then bd (e_U H G) fun W=>some W else bd (α:=Int) (if (G.kind==7)=true then bd (idx G.kids 0) fun Y=>bd (idx H Y) fun a0=>bd (e_V H G) fun a1=>some (h_ a0 a1) else bd (α:=Int) (if (G.kind==9)=true then bd (idx G.kids 0) fun a2=>bd (idx H a2) fun a3=>some (h_ a3 1) else some 1) (fun a4=>some a4)) (fun a5=>some a5)) (fun a6=>some a6))<|fun a7=>some a7)) (fun a8=>some a8))<|fun a9=>bd (d_P a9 401) fun aa=>bd (upd H (I:Int) aa) fun ab=>some<|.next ab))) x1.rules.length 0<|List.replicate 24 (0:Int)) (el (fun H=>some H)<|fun ad=>some ad)
def e_X (n:Nat)(x1:d_)(x2:Int):Option Int :=
 bd (d_M n x1 x2) fun G=>if (!G)=true then some 0 else bd (e_W x1) fun H=>bd (idx H x2) fun I=>some I
def e_Y (n:Nat)(x1:d_)(x2:List UInt8):Option Int :=
 bd (c_W n x1 x2) fun G=>if (!G)=true then some 0 else bd (d_g x1) fun H=>bd (e_X n x1 H) fun I=>bd (e_F 1<|G_ I (x2.length:Int)) fun J=>some J
def e_Z (n:Nat)(x1:d_)(x2:List (List UInt8))(x3:Int):Option Int :=
 bd (y_ (σ:=Int) (ρ:=Int) (fun H=>(fun G=>bd (idx x2 (H:Int)) fun I=>bd2 (d_v n x1 I) fun V J=>bd (α:=Int) (if (J==x3)=true then some (h_ G 1) else some G)<|fun L=>some<|.next L)) x2.length 0 0) (el (fun G=>some G)<|fun O=>some O)
def f_0 (n:Nat)(x1:List UInt8):Option Bool :=
 bd (g_c x1) fun O=>if O=true then some true else bd2 (g_w n x1) fun G H=>bd (f_5 n G H) fun I=>bd2 (e_4 n G H) fun V J=>bd (α:=Bool) (if (I.position != V)=true then some true else if (I.code != J)=true then some true else bd (e_N n G H) fun W=>some (!decide ((I:a_n)=(W:a_n)))) (fun Y=>if Y=true then some false else bd (d_n G I) fun L=>bd (α:=Bool) (if ((L.b==(⟨[111,107]⟩:Str).b) != (J==0))=true then some true else bd (c_A n G I) fun a0=>if (L.b != a0.b)=true then some true else bd (e_S G I) fun a1=>bd (e_T n G I) fun a2=>some<|a1.b != a2.b) (fun a3=>if a3=true then some false else bd (e_Y n G H) fun a4=>bd (α:=Bool) (bd (c_W n G H) fun a5=>if (a5==(J==1))=true then bd (c_W n G H) fun a6=>if ((decide<|0<a4)==a6)=true then bd (e_Z n G [H,H] J) fun a7=>some (a7==2) else some false else some false)<|fun a8=>some a8))
end Go.Vw
namespace Go.Vw
open Go.RowKit Dat
theorem l_6 {P:Program}{o:Oper}{a:Act}{w:World}{K K' K1 K2:Act->World->Prop}{Q:Exit->Act->World->Prop}(h:∀a w,K a w->K' a w)(hh:o.wp P a w K (Exit.then K1 Q)):o.wp P a w K' (Exit.then K2 Q):=by
 unfold Oper.wp at *
 generalize (execOp a.eval o).run P w=r at *
 cases r with
 | ok n w' =>
  cases n <;> simp only [Oper.upon] at hh ⊢ <;>
   first
    | exact h _ _ hh
    | exact Calls.mono hh (fun e w'' he=>by cases e <;> first | exact h _ _ he | exact he)
    | exact Rows.mono hh<|fun _ _ he=>h _ _ he
 | halt x w'=>cases x <;> simp only [Oper.upon] at hh ⊢ <;> exact hh
theorem h_p {P:Program}{ops:Array Oper}{K K1:Act->World->Prop}{Q:Exit->Act->World->Prop}{G:List Oper}(hk:∀a w,K1 a w->wpList P ops (Exit.then K Q) G a w):∀(l1:List Oper)(a:Act)(w:World),wpList P ops (Exit.then K1 Q) l1 a w->wpList P ops (Exit.then K Q) (l1++G) a w
 | [],a,w,h=>hk a w h
 | o::l1,a,w,h=>by
  rw [List.cons_append]
  unfold wpList at h ⊢
  split at h
  ·rename_i hw
   rw [if_pos hw]
   rcases h with h | ⟨h1,h2⟩
   ·exact .inl<|l_6 (h_p hk l1) h
   ·exact .inr ⟨h1,h2⟩
  ·rename_i hw
   rw [if_neg hw]
   exact h_p hk l1 _ _ h
section
variable {P:Program}{N:Nat}{ops:Array Oper}{K:Act->World->Prop}{Q:Exit->Act->World->Prop}{e:Env}{w:World}{l:List Oper}
theorem l_7 (k:Nat)(l:List Oper):l.take k++l.drop k=l:=List.take_append_drop k l
theorem c_w (d:Nat)(u:Bool)(k:Nat)(h1:WL P N ops (fun a w'=>w'=w/\Sat N ((d,vB u)::e) a) Q (l.take k) e w)(h2:WL P N ops K Q (l.drop k) ((d,vB u)::e) w):WL P N ops K Q l e w:=fun a ha=>by
 rw [← l_7 k l]
 exact h_p (fun a w' ⟨hw,hs⟩=>by subst hw;exact h2 a hs) _ a w<|h1 a ha
variable {d:Nat}{u c:Bool}
def h_q (n:Nat)(e:Env):Bool:=(e.take n).all fun p=>(e.drop n).all fun q=>!Nat.beq p.1 q.1
theorem j_9:∀{e:Env}{t:Nat},(∀q∈e,Nat.beq t q.1=false)->o_ e t=none
 | [],_,_=>rfl
 | (k,v)::e,t,h=>by
  have h1:=h (k,v) List.mem_cons_self;have h2:Nat.beq k t=false:=by rw [← Bool.not_eq_true,Nat.beq_eq] at *;exact fun h=>h1 h.symm
  rw [o_,h2]
  exact j_9 fun q hq=>h q<|List.mem_cons_of_mem _ hq
theorem j_a:∀{G H:Env}{t:Nat},(∀p∈G,Nat.beq p.1 t=false)->o_ (G++H) t=o_ H t
 | [],_,_,_=>rfl
 | (k,v)::G,H,t,h=>by
  rw [List.cons_append,o_,h (k,v) List.mem_cons_self]
  exact j_a fun p hp=>h p<|List.mem_cons_of_mem _ hp
theorem l_8 {n:Nat}{e:Env}(h:h_q n e=true){t:Nat}{v:Value}(hl:o_ (e.drop n) t=some v):o_ e t=some v:=by
 have:o_ (e.take n++e.drop n) t=o_ (e.drop n) t:=by
  refine j_a fun p hp=>?_
  cases hb:Nat.beq p.1 t with
  | false=>rfl
  | true =>
   exfalso
   have hpt:p.1=t:=Nat.eq_of_beq_eq_true hb;have h1:=List.all_eq_true.1 h p hp
   rw [List.all_eq_true] at h1
   have:=j_9 (e:=e.drop n) (t:=t) fun q hq=>by
    have:=h1 q hq
    rw [Bool.not_eq_true'] at this
    rw [← hpt];exact this
   rw [this] at hl;cases hl
 rw [List.take_append_drop] at this
 rw [this];exact hl
theorem l_9 (n:Nat){e':Env}{a:Act}(hu:c=u)(G:o_ e' d=some (vB c))(hf:h_q n e'=true)(he:e'.drop n=e)(ha:Sat N e' a):Sat N ((d,vB u)::e) a:=by
 subst hu;subst he;refine ⟨ha.defers,ha.size,fun t v ht=>?_⟩
 simp only [o_] at ht
 by_cases hk:d=t
 ·subst hk;have hb:Nat.beq d d=true:=by simp
  rw [hb] at ht
  simp only [cond_true,Option.some.injEq] at ht
  subst ht;exact ha.at_ d _ G
 ·have hb:Nat.beq d t=false:=by rw [← Bool.not_eq_true,Nat.beq_eq];exact hk
  rw [hb] at ht
  simp only [cond_false] at ht
  exact ha.at_ t v<|l_8 hf ht
theorem WLq (n:Nat){e':Env}(hu:some c=some u)(G:o_ e' d=some (vB c))(hf:h_q n e'=true)(he:e'.drop n=e):WL P N ops (fun a w'=>w'=w/\Sat N ((d,vB u)::e) a) Q [] e' w :=
 b_U fun _ ha=>⟨rfl,l_9 n (Option.some.inj hu) G hf he ha⟩
end
end Go.Vw
universe u
namespace Go.Vw
open Go.RowKit Dat
section
variable {P:Program}{N:Nat}{ops:Array Oper}{K:Act->World->Prop}{Q:Exit->Act->World->Prop}{e:Env}{w:World}{rest:List Oper}
variable {d:Nat}{op:Op}{ty:TypeId}{pos:String}{aft:Array Edge}{x:Operand}
theorem Wn {y:Code}{Q':Exit->Act->World->Prop}(h:WC P N y K Q e w):WL P N ops (KC P y K Q) Q' [] e w:=b_U<|WC.of_KC h
theorem Ws {id:Nat}{l:List Oper}{y:Code}(h:WL P N l.toArray (KC P y K Q) Q l e w):WC P N (.seq (.region id l.toArray false) y) K Q e w:=b_K<|c_b h
theorem Wk {y:Code}{Q':Exit->Act->World->Prop}(h:WC P N y K Q e w):WC P N .skip (KC P y K Q) Q' e w:=M_<|WC.of_KC h
theorem c_u {b:Bool}{o:Option Value}{v:Value}(h:(bif b then o else none)=some v):b=true/\o=some v:=by
 cases b
 ·cases h
 ·exact ⟨rfl,h⟩
theorem Rm {v:Value}(h:(bif Nat.blt d N then ev e x else none)=some v)(k:WL P N ops K Q rest ((d,v)::e) w):WL P N ops K Q (⟨some d,.move x,ty,pos,aft,none⟩::rest) e w:=R (c_u h).1 (c_i (c_u h).2) k
theorem Ra {v:Value}(h:(bif Nat.blt d N then ev e x else none)=some v)(k:WL P N ops K Q rest ((d,v)::e) w):WL P N ops K Q (⟨some d,.assign x,ty,pos,aft,none⟩::rest) e w:=R (c_u h).1 (b_N (c_u h).2) k
section
variable {j:Nat}{want b:Bool}
theorem bind_some {o:Option Nat}{v:Value}(h:o.bind (o_ e)=some v):∃gd,o=some gd/\o_ e gd=some v:=by
 cases o with
 | none=>cases h
 | some g=>exact ⟨g,rfl,h⟩
theorem Rh {v:Value}(h:(bif Nat.blt d N then ((ops[j]?).bind (·.dst)).bind (o_ e) else none)=some (.bool b))(hw:b=want)(hr:Rd noX P N ⟨some d,op,ty,pos,aft,some (j,want)⟩ e w v)(k:WL P N ops K Q rest ((d,v)::e) w):WL P N ops K Q (⟨some d,op,ty,pos,aft,some (j,want)⟩::rest) e w:=by
 obtain ⟨gd,h1,h2⟩:=bind_some (c_u h).2;exact Rg h1 h2 hw (c_u h).1 hr k
theorem Nh (h:(bif Nat.blt d N then ((ops[j]?).bind (·.dst)).bind (o_ e) else none)=some (.bool b))(hw:b = !want)(k:WL P N ops K Q rest ((d,undef)::e) w):WL P N ops K Q (⟨some d,op,ty,pos,aft,some (j,want)⟩::rest) e w:=by
 obtain ⟨gd,h1,h2⟩:=bind_some (c_u h).2;exact Ng h1 h2 hw (c_u h).1 k
theorem Nv (h:(bif Nat.blt d N then ((ops[j]?).bind (·.dst)).bind (o_ e) else none)=some undef)(k:WL P N ops K Q rest ((d,undef)::e) w):WL P N ops K Q (⟨some d,op,ty,pos,aft,some (j,want)⟩::rest) e w:=by
 obtain ⟨gd,h1,h2⟩:=bind_some (c_u h).2;exact Nu h1 h2 (c_u h).1 k
end
end
theorem goF {P:Program}{f:FuncId}{G:Func}{c:Code}{N:Nat}{args:List Value}{w:World}{R:Value->World->Prop}(hf:P.funcs[f]? = some G)(hb:G.body=some c)(hN:G.ntmps=N)(hle:args.length<=N)(h:∀fn:Func,fn.results=G.results->WC P N c (b_X P fn R) (QR P fn R) (d_t 0 args) w):j_ P f args w R:=h_W hf hb hN hle<|h G rfl
theorem goG {P:Program}{f:FuncId}{G:Func}{c:Code}{N:Nat}{args:List Value}{w:World}{R:Value->World->Prop}(hf:P.funcs[f]? = some G)(hb:G.body=some c)(hN:G.ntmps=N)(hle:Nat.ble args.length N=true)(h:∀fn:Func,fn.results=G.results->WC P N c (b_X P fn R) (QR P fn R) (d_t 0 args) w):j_ P f args w R:=goF hf hb hN (Nat.le_of_ble_eq_true hle) h
section
variable {P:Program}{N:Nat}{e:Env}{w:World}{ty:TypeId}{pos:String}{aft:Array Edge}{gd:Option (Nat×Bool)}{x y:Operand}
theorem fs0 {T n g o:Nat}{v:Value}{cur cur':List Value}(hs:∀w,(sizeOf T).run P w = .ok n w)(hp:ev e x=some (.pointer<|some ⟨g,o,none⟩))(hv:ev e y=some v)(hB:Blk w g cur)(hn:v.cells.size=n)
  (ho:Nat.ble (o+n) cur.length=true) (h1:v.cells.toList.all Value.oneCell'=true) (hcur:cur.take o++v.cells.toList++cur.drop (o+v.cells.toList.length)=cur') :
  Ef P N ⟨none,.store T x y,ty,pos,aft,gd⟩ e w (fun _ w'=>Blk w' g cur'/\Chg (· = g) w w'):=d_T hs hp hv hB hn (Nat.le_of_ble_eq_true ho) (g_k h1) hcur
end
abbrev rQ {ρ:Type}(P:Program)(fn:Func)(Q:ρ->Value->World->Prop)(r:ρ)(ex:Exit)(a:Act)(w:World):Prop:=ex = .ret/\b_X P fn (Q r) a w
abbrev _root_.Go.World.z (w:World):Nat:=w.heap.size
abbrev sl (a:Option Addr)(n c:Nat):Value:=.slice a n c
abbrev pt (g:Nat):Value:=.pointer<|some ⟨g,0,none⟩
abbrev Bw (a b:World):Prop:=Below a.heap.size a b
abbrev vR (x:g_)(G:Option Addr)(H I:Nat)(J:Option Addr)(L O:Nat)(V:Option Addr)(W Y:Nat)(a4:Option Addr)(n4 c4:Nat):List Value:=[x.name.v,vI x.kind,vI x.size,vB x.little,.slice G H I,.slice J L O,.slice V W Y,.slice a4 n4 c4]
theorem z {α:Sort u}{a:α}:a=a:=rfl
theorem Sat.k {N:Nat}{e e':Env}{a:Act}(h:Sat N e a)(hs:sub e e'):Sat N e' a:=h.weaken hs
theorem fid {a:Prop}(h:a):a:=h
theorem lt_ {a b c:Nat}(h:a<=b)(h':b<=c):a<=c:=Nat.le_trans h h'
theorem lr {a:Nat}:a<=a:=Nat.le_refl a
theorem lb {a b:Nat}(h:Nat.ble a b=true):a<=b:=Nat.le_of_ble_eq_true h
theorem ii {x:Int}(h:(decide (-9223372036854775808<=x) && decide (x<=9223372036854775807))=true):inI x:=inI_of x h
section
variable {S T A M:List Nat}{m n g k:Nat}
theorem i_X (h:m<=n):∀k∈[n],m<=k:=b_ h
theorem mno (h:∀ k∈T,k<m)(h':m<=n):∀k∈[n],k∉T:=b_<|fun ht=>absurd (h n ht)<|Nat.not_lt.2 h'
theorem mnr (h:∀ k∈T,k<m):∀k∈[m],k∉T:=mno h lr
theorem mm1 (h:g<m)(h':m<=n):∀k∈[n],k∉[g]:=mno (b_ h) h'
theorem mmr (h:g<m):∀k∈[m],k∉[g]:=mno (b_ h) lr
theorem mor (h:m<=n):∀k∈[n],k∈M∨m<=k:=b_<|.inr h
theorem w_ (hs:∀k∈S,n<=k)(h:m<=n):∀k∈S,m<=k:=or0 hs<|a_R h
theorem m_ (hs:∀k∈S,n<=k)(h:g<m)(h':m<=n):∀k∈S,k∉[g]:=or0 hs<|W_ (b_ h) h'
theorem c_9 (hs:∀k∈S,n<=k)(h:∀ k∈T,k<m)(h':m<=n):∀k∈S,k∉T:=or0 hs<|W_ h h'
theorem a_O (hs:∀k∈S,k∈A∨n<=k)(ha:∀k∈A,m<=k)(h:m<=n):∀k∈S,m<=k:=or1 hs ha<|a_R h
theorem o1no (hs:∀k∈S,k∈A∨n<=k)(ha:∀k∈A,k∉T)(h:∀ k∈T,k<m)(h':m<=n):∀k∈S,k∉T:=or1 hs ha<|W_ h h'
theorem djs (h:∀k∈S,k∉[g]):g∉S:=fun hg=>h g hg<|List.mem_singleton.2 rfl
theorem atp {p:Nat->Prop}(h:∀k∈[g],p k):p g:=h g<|List.mem_singleton.2 rfl
theorem nd0:([]++[]:List Nat).Nodup:=g_n H_ H_ d_r
theorem al0 {p:Nat->Prop}:∀k∈([]++[]:List Nat),p k:=g_m d_r d_r
end
section
variable {e e':Env}{v1 v2 v3 v4 v5 v6 v7 v8 v9:Value}{k1 k2 k3 k4 k5 k6 k7 k8 k9:Nat}
theorem s1 (h1:o_ e k1=some v1):sub e [(k1,v1)]:=⟨h1,trivial⟩
theorem s2 (h1:o_ e k1=some v1)(h2:o_ e k2=some v2):sub e [(k1,v1),(k2,v2)]:=⟨h1,s1 h2⟩
theorem s3 (h1:o_ e k1=some v1)(h2:o_ e k2=some v2)(h3:o_ e k3=some v3):sub e [(k1,v1),(k2,v2),(k3,v3)]:=⟨h1,s2 h2 h3⟩
theorem s4 (h1:o_ e k1=some v1)(h2:o_ e k2=some v2)(h3:o_ e k3=some v3)(h4:o_ e k4=some v4):sub e [(k1,v1),(k2,v2),(k3,v3),(k4,v4)]:=⟨h1,s3 h2 h3 h4⟩
theorem s5 (h1:o_ e k1=some v1)(h2:o_ e k2=some v2)(h3:o_ e k3=some v3)(h4:o_ e k4=some v4)(h5:o_ e k5=some v5):sub e [(k1,v1),(k2,v2),(k3,v3),(k4,v4),(k5,v5)]:=⟨h1,s4 h2 h3 h4 h5⟩
theorem s6 (h1:o_ e k1=some v1)(h2:o_ e k2=some v2)(h3:o_ e k3=some v3)(h4:o_ e k4=some v4)(h5:o_ e k5=some v5)(h6:o_ e k6=some v6):sub e [(k1,v1),(k2,v2),(k3,v3),(k4,v4),(k5,v5),(k6,v6)]:=⟨h1,s5 h2 h3 h4 h5 h6⟩
theorem s7 (h1:o_ e k1=some v1)(h2:o_ e k2=some v2)(h3:o_ e k3=some v3)(h4:o_ e k4=some v4)(h5:o_ e k5=some v5)(h6:o_ e k6=some v6)(G:o_ e k7=some v7):sub e [(k1,v1),(k2,v2),(k3,v3),(k4,v4),(k5,v5),(k6,v6),(k7,v7)]:=⟨h1,s6 h2 h3 h4 h5 h6 G⟩
theorem s8 (h1:o_ e k1=some v1)(h2:o_ e k2=some v2)(h3:o_ e k3=some v3)(h4:o_ e k4=some v4)(h5:o_ e k5=some v5)(h6:o_ e k6=some v6)(G:o_ e k7=some v7)(H:o_ e k8=some v8):sub e [(k1,v1),(k2,v2),(k3,v3),(k4,v4),(k5,v5),(k6,v6),(k7,v7),(k8,v8)]:=⟨h1,s7 h2 h3 h4 h5 h6 G H⟩
theorem s9 (h1:o_ e k1=some v1)(h2:o_ e k2=some v2)(h3:o_ e k3=some v3)(h4:o_ e k4=some v4)(h5:o_ e k5=some v5)(h6:o_ e k6=some v6)(G:o_ e k7=some v7)(H:o_ e k8=some v8)(I:o_ e k9=some v9):sub e [(k1,v1),(k2,v2),(k3,v3),(k4,v4),(k5,v5),(k6,v6),(k7,v7),(k8,v8),(k9,v9)]:=⟨h1,s8 h2 h3 h4 h5 h6 G H I⟩
end
theorem onL {α:Type}[Dat α]{w:World}:a_ w [] (.slice none 0 0) ([]:List α):=l_q w
theorem _root_.Go.RowKit.Below.s {b:Nat}{w w':World}(h:Below b w w'):w.heap.size<=w'.heap.size:=h.size
theorem Chg.s {X:Nat->Prop}{w w':World}(h:Chg X w w'):w.heap.size<=w'.heap.size:=h.size
abbrev Chg.e:=@Chg.ext
abbrev repS.e:=@repS.ext
abbrev repS.c:=@repS.chg
abbrev a_.e:=@a_.ext
abbrev a_.c:=@a_.chg
abbrev V_.e:=@V_.ext
abbrev V_.c:=@V_.chg
abbrev b_r.e:=@b_r.ext
abbrev b_r.c:=@b_r.chg
abbrev a_V.e:=@a_V.ext
abbrev a_V.c:=@a_V.chg
abbrev GlW.e:=@GlW.ext
abbrev GlW.c:=@GlW.chg
abbrev b_j.e:=@b_j.ext
abbrev b_j.c:=@b_j.chg
abbrev Blk.e:=@Blk.ext
abbrev Blk.c:=@Blk.chg
abbrev b_c.e:=@b_c.ext
abbrev b_c.c:=@b_c.chg
section
variable {P:Program}{N:Nat}{ops:Array Oper}{K:Act->World->Prop}{Q:Exit->Act->World->Prop}{e:Env}{w:World}{rest:List Oper}{X:Nat->Prop}{T:Nat}{p:a_g}
variable {d d':Nat}{ty ty':TypeId}{pos pos':String}{aft aft':Array Edge}{x x':Operand}{v v':Value}
theorem Rw {c:Code}{Q':Exit->Act->World->Prop}(h:(bif Nat.blt d N then ev e x else none)=some v)(k:WC P N c K Q ((d,v)::e) w):WL P N ops (KC P c K Q) Q' [⟨some d,.assign x,ty,pos,aft,none⟩] e w:=Ra h<|Wn k
theorem Wm {id:Nat}{l:List Oper}{c:Code}(h:(bif Nat.blt d N then ev e x else none)=some v)(k:WL P N (⟨some d,.move x,ty,pos,aft,none⟩::l).toArray (KC P c K Q) Q l ((d,v)::e) w):WC P N (.seq (.region id (⟨some d,.move x,ty,pos,aft,none⟩::l).toArray false) c) K Q e w:=Ws<|Rm h k
theorem RM (h:(bif Nat.blt d N then ev e x else none)=some v)(h':(bif Nat.blt d' N then ev ((d,v)::e) x' else none)=some v')(k:WL P N ops K Q rest ((d',v')::(d,v)::e) w):WL P N ops K Q (⟨some d,.move x,ty,pos,aft,none⟩::⟨some d',.move x',ty',pos',aft',none⟩::rest) e w:=Rm h<|Rm h' k
theorem RA (h:(bif Nat.blt d N then ev e x else none)=some v)(h':(bif Nat.blt d' N then ev ((d,v)::e) x' else none)=some v')(k:WL P N ops K Q rest ((d',v')::(d,v)::e) w):WL P N ops K Q (⟨some d,.assign x,ty,pos,aft,none⟩::⟨some d',.assign x',ty',pos',aft',none⟩::rest) e w:=Ra h<|Ra h' k
theorem dM {i:Nat}(ho:ops[i]? = some ⟨some d,.move x,ty,pos,aft,none⟩)(hf:Nat.blt d N=true)(h:ev e x=some v)(k:PR X P N ops T K p ((d,v)::e) w):PR X P N ops T K (.rd i p) e w:=dR ho hf (c_i h) k
theorem dQ {i:Nat}(ho:ops[i]? = some ⟨some d,.assign x,ty,pos,aft,none⟩)(hf:Nat.blt d N=true)(h:ev e x=some v)(k:PR X P N ops T K p ((d,v)::e) w):PR X P N ops T K (.rd i p) e w:=dR ho hf (b_N h) k
theorem Wx {y y':Code}{b:Bool}{Q':Exit->Act->World->Prop}(hc:ev e x=some (.bool b))(ht:b=true->WC P N y K Q e w)(hf:b=false->WC P N y' K Q e w):WL P N ops (KC P (.cond x y y') K Q) Q' [] e w:=Wn<|e_E hc ht hf
section
variable {t u i:Nat}{k:IntKind}{a b:Int}
theorem Rl (hf:Nat.blt d N=true)(h1:ev e x=some (.int k a))(h2:ev e x'=some (.int k b))(h:WL P N ops K Q rest ((d,vB<|decide<|a<b)::e) w):WL P N ops K Q (⟨some d,.binOp .lss t x x' u,ty,pos,aft,none⟩::rest) e w:=R hf (g_I h1 h2) h
theorem Rq (hf:Nat.blt d N=true)(h1:ev e x=some (.int k a))(h2:ev e x'=some (.int k b))(h:WL P N ops K Q rest ((d,vB<|a==b)::e) w):WL P N ops K Q (⟨some d,.binOp .eql t x x' u,ty,pos,aft,none⟩::rest) e w:=R hf (f_7 h1 h2) h
theorem Rf {g o j:Nat}(hf:Nat.blt d N=true)(h1:Fld P t i j)(h2:ev e x=some (.pointer<|some ⟨g,o,none⟩))(h:WL P N ops K Q rest ((d,.pointer<|some ⟨g,o+j,none⟩)::e) w):WL P N ops K Q (⟨some d,.fieldAddr t x i,ty,pos,aft,none⟩::rest) e w:=R hf (g_D h1 h2) h
theorem Re {vs:Array Value}(hf:Nat.blt d N=true)(h1:ev e x=some (.tuple vs))(h2:vs[i]? = some v)(h:WL P N ops K Q rest ((d,v)::e) w):WL P N ops K Q (⟨some d,.extract x i,ty,pos,aft,none⟩::rest) e w:=R hf (e_8 h1 h2) h
end
theorem l0 {t g o:Nat}{dst:Option Tmp}{gd:Option (Nat×Bool)}(hT:∀w,(isAgg t).run P w = .ok false w)(h:ev e x=some (.pointer<|some ⟨g,o,none⟩))(hc:w.cell? ⟨g,o,none⟩=some v):Rd noX P N ⟨dst,.load t x,ty,pos,aft,gd⟩ e w v:=f_6 hT h (fun h=>h) hc
def plA:Nat->Nat->List Nat->a_g
 | _,0,_=>.done
 | i,n+1,l=>bif l.elem i then .ef i (plA (i+1) n l) else .rd i (plA (i+1) n l)
abbrev pl_ (n:Nat)(l:List Nat):a_g:=plA 0 n l
end
end Go.Vw
namespace Go.Vw
open Go.RowKit Dat Go.ChangeShapes Go.WideShapes Go.ChangeAt
structure IsT (P:Program)(t:TypeId)(α:Type)[Dat α](L:α->Prop):Prop where
 rd:∀{H:Type}(enc:TypeId×Value->H)(W:World)(fuel:Nat)(cs:List Value)(x:DataW H×List MemPlace),DataW.trod enc P W 0 (fun _=>true) true fuel t cs=some x->(x.1.weights P t).all (· <= reachBytes)=true->∃v:α,rep W W.heap.size cs v/\L v
section
variable {P:Program}{t:TypeId}
theorem l_O (ht:P.underlying t=some (.int .u8)):IsT P t UInt8 (fun _=>True):=⟨fun enc W fuel cs x h _=>by
 obtain ⟨n,rfl,_,hw⟩:=DataW.trod_int ht h;have hb:=bounds_u8 hw
 have e:n=byteI (UInt8.ofNat n.toNat):=by
  unfold byteI
  rw [UInt8.toNat_ofNat']
  omega
 refine ⟨UInt8.ofNat n.toNat,⟨_,rfl,?_⟩,trivial⟩
 show Value.int .u8 n=vU (byteI<|UInt8.ofNat n.toNat)
 rw [← e]⟩
theorem j_u {H:Type}{e:TypeId}:∀{l:List (DataW H)}{d:DataW H},(DataW.weightsAll P e l).all (· <= reachBytes)=true->d∈l->(d.weights P e).all (· <= reachBytes)=true
 | [],_,_,h=>by cases h
 | y::l,d,hw,h=>by
  unfold DataW.weightsAll at hw
  rw [List.all_append,Bool.and_eq_true] at hw
  rcases List.mem_cons.1 h with rfl | h
  ·exact hw.1
  ·exact j_u hw.2 h
theorem j_v {H:Type}:∀{ts:List TypeId}{l:List (DataW H)}{i:Nat}{t:TypeId}{d:DataW H},(DataW.weightsEach P ts l).all (· <= reachBytes)=true->ts[i]? = some t->l[i]? = some d->(d.weights P t).all (· <= reachBytes)=true
 | [],_,_,_,_,_,h,_=>by simp at h
 | _::_,[],_,_,_,_,_,h=>by simp at h
 | t::ts,y::l,i,t',d,hw,h1,h2=>by
  unfold DataW.weightsEach at hw
  rw [List.all_append,Bool.and_eq_true] at hw
  cases i with
  | zero=>simp at h1 h2;subst h1 h2;exact hw.1
  | succ i=>simp at h1 h2;exact j_v hw.2 h1 h2
theorem cells?_spec {w:World}{a:Addr}{n:Nat}{cs:List Value}(h:w.cells? 0 a n=some cs):cs.length=n/\∀j v,cs[j]? = some v->w.cell? (a.add j)=some v:=by
 unfold World.cells? at h
 rw [if_pos (Nat.zero_le _)] at h
 refine ⟨by simpa using mapM_some_length h,fun j v hv=>?_⟩
 have hj:j<n:=by
  have h1:=(List.getElem?_eq_some_iff.1 hv).1;have h2:=mapM_some_length h
  simp at h2
  omega
 have:=mapM_some_get h j j (by rw [List.getElem?_range hj])
 rw [this];exact hv
theorem l_P {w:World}{a:Addr}{v:Value}(h:w.cell? a=some v):a.spot=none:=by
 unfold World.cell? at h
 split at h
 ·cases hs:a.spot with
  | none=>rfl
  | some x=>rw [hs] at h;simp at h
 ·cases h
theorem j_w {α:Type}(Q:Nat->α->Prop):∀(len:Nat),(∀i,i<len->∃v,Q i v)->∃l:List α,l.length=len/\∀(i:Nat)(x:α),l[i]? = some x->Q i x
 | 0,_=>⟨[],rfl,fun i x h=>by simp at h⟩
 | n+1,h=>by
  obtain ⟨l,hl,hq⟩:=j_w Q n<|fun i hi=>h i (by omega);obtain ⟨v,hv⟩:=h n (by omega);refine ⟨l++[v],by simp [hl],fun i x hx=>?_⟩
  by_cases hi:i<l.length
  ·rw [List.getElem?_append_left hi] at hx;exact hq i x hx
  ·rw [List.getElem?_append_right (by omega)] at hx
   have h1:=(List.getElem?_eq_some_iff.1 hx).1
   simp only [List.length_cons,List.length_nil] at h1
   have h2:i=n:=by omega
   subst h2
   rw [show i - l.length=0 by omega] at hx
   simp at hx
   exact hx ▸ hv
theorem l_Q {α:Type}[Dat α]{L:α->Prop}{e:TypeId}(ht:P.underlying t=some (.slice e))(he:IsT P e α L)(hc:P.cellsOf e=sz α)(hb:1<=P.bytesOf e):IsT P t (List α) (fun l=>l.length<=LEN/\∀x∈l,L x):=⟨fun enc W fuel cs x h hw=>by
 have hr:reachBytes=140737488351232:=rfl;have hL:LEN=140737488355328:=rfl
 rcases DataW.trod_slice ht h with ⟨rfl,rfl⟩ | ⟨a,len,cap,elems,rest,n,_,rfl,rfl,_,hlc,_,hlen,hel,hsp,_⟩
 ·exact ⟨[],⟨_,rfl,none,0,rfl,Nat.le_refl _,Nat.zero_le _,fun _=>rfl,fun p hp=>by cases hp⟩,by simp,fun x hx=>by cases hx⟩
 ·obtain ⟨hrl,_⟩:=hsp rfl
  have hw':(elems.length+rest.length) * P.bytesOf e<=reachBytes/\(DataW.weightsAll P e<|elems.map (·.1)).all (· <= reachBytes)=true:=by
   unfold DataW.weights at hw
   rw [ht] at hw
   simp only [List.all_cons,List.all_append,Bool.and_eq_true,decide_eq_true_eq,List.length_map] at hw
   exact ⟨hw.1,hw.2.1⟩
  have hcap:cap<=LEN:=by
   have h1:elems.length+rest.length<=(elems.length+rest.length) * P.bytesOf e:=Nat.le_mul_of_pos_right _ hb
   omega
  have hone:∀i:Nat,i<len->∃v:α,a.spot=none/\a.block<W.heap.size/\(∃cs,V_ W a.block (a.off+i * sz α) cs/\rep W W.heap.size cs v)/\L v:=by
   intro i hi;have h1:=hel i hi;have hie:i<elems.length:=by omega
   rw [List.getElem?_eq_getElem hie] at h1
   cases hcs:W.cells? 0 (a.add<|i * P.cellsOf e) (P.cellsOf e) with
   | none=>rw [hcs] at h1;cases h1
   | some cs =>
    rw [hcs] at h1
    simp only [Option.bind_some] at h1
    obtain ⟨v,hv,hl⟩:=he.rd enc W n cs _ h1<|j_u hw'.2<|List.mem_map_of_mem<|List.getElem_mem hie;obtain ⟨J,O⟩:=cells?_spec hcs;have hpos:0<cs.length:=by rw [J,hc];exact Dat.pos
    have hsp:a.spot=none:=by
     have G:=hel 0 (by omega)
     rw [List.getElem?_eq_getElem (show 0<elems.length by omega)] at G
     cases H:W.cells? 0 (a.add<|0 * P.cellsOf e) (P.cellsOf e) with
     | none=>rw [H] at G;cases G
     | some I =>
      obtain ⟨V,Y⟩:=cells?_spec H;have hpos0:0<I.length:=by rw [V,hc];exact Dat.pos
      have:=Y 0 I[0] (by rw [List.getElem?_eq_getElem hpos0]);have:=l_P this
      simpa [Addr.add] using this
    have ha:a=⟨a.block,a.off,none⟩:=by cases a;simp only at hsp;rw [hsp]
    have hcells:V_ W a.block (a.off+i * sz α) cs:=by
     intro j u hu;have:=O j u hu
     rw [ha,Addr.add_lit,Addr.add_lit,hc] at this
     exact this
    exact ⟨v,hsp,hcells.lt (by intro h;rw [h] at hpos;cases hpos),⟨cs,hcells,hv⟩,hl⟩
  obtain ⟨l,hll,hq⟩:=j_w _ len hone;refine ⟨l,⟨_,rfl,some a,cap,by rw [hll],by omega,by omega,fun h=>(by cases h),fun p hp=>?_⟩,by omega,fun x hx=>?_⟩
  ·obtain rfl:=Option.some.inj hp;refine ⟨fun hne=>?_,fun hne=>?_,fun i x hx=>(hq i x hx).2.2.1⟩
   ·cases l with
    | nil=>exact absurd rfl hne
    | cons y l=>exact (hq 0 y rfl).1
   ·cases l with
    | nil=>exact absurd rfl hne
    | cons y l=>exact (hq 0 y rfl).2.1
  ·obtain ⟨i,hi⟩:=List.getElem?_of_mem hx
   exact (hq i x hi).2.2.2⟩
structure OkW (P:Program)(W:World)(base:Nat)(t:TypeId)(v:Value):Prop where
 h:Value.okWide P W .any base t v
structure OkWs (P:Program)(W:World)(base:Nat)(ts:Array TypeId)(vs:Array Value):Prop where
 h:∀(j:Nat) t v,ts[j]? = some t->vs[j]? = some v->Value.okWide P W .any base t v
theorem OkWs.at {W:World}{base:Nat}{ts:Array TypeId}{vs:Array Value}(h:OkWs P W base ts vs)(j:Nat)(t:TypeId)(v:Value)(h1:ts[j]? = some t)(h2:vs[j]? = some v):OkW P W base t v:=⟨h.h j t v h1 h2⟩
theorem l_R {W:World}{base:Nat}{t:TypeId}{v:Value}{e:TypeId}(ht:P.underlying t=some (.slice e))(h:OkW P W base t v):∃a n c,v = .slice a n c:=okWide_slice ht h.h
theorem j_x {H:Type}{enc:TypeId×Value->H}(hl:laidOutB P=true){W W':World}(hb:Below W.heap.size W W'):∀(ts:List TypeId)(vs:List Value)(ds:List (DataW H))(ps:List MemPlace),(∀t∈ts,P.readableRec t=true/\t<P.types.size) ->
  DataW.TrodAll enc P W 0 (fun _=>true) true ts vs ds ps->(∀x∈ps,x.block<W.heap.size)->∀(sp:Nat->Bool),(∀b,b<W.heap.size->sp b=true)->DataW.TrodAll enc P W' 0 sp true ts vs ds ps
 | [],[],[],_,_,h,_,_,_=>h
 | t::ts,v::vs,d::ds,ps,hr,h,hlt,sp,hsp=>by
  obtain ⟨p,q,h1,h2,rfl⟩:=h;refine ⟨p,q,?_,j_x hl hb ts vs ds q (fun t ht=>hr t<|List.mem_cons_of_mem _ ht) h2 (fun x hx=>hlt x<|List.mem_append_right _ hx) sp hsp,rfl⟩;have hlp:∀x∈p,x.block<W.heap.size:=fun x hx=>hlt x<|List.mem_append_left _ hx
  exact WideElems.Trod_stays hl (hr t List.mem_cons_self).1 (hr t List.mem_cons_self).2 h1 (fun x hx=>hb.same<|hlp x hx) (fun x hx=>hsp _<|hlp x hx)
 | [],_::_,_,_,_,h,_,_,_=>by cases h
 | [],[],_::_,_,_,h,_,_,_=>by cases h
 | _::_,[],_,_,_,h,_,_,_=>by cases h
 | _::_,_::_,[],_,_,h,_,_,_=>by cases h
end
end Go.Vw
namespace Go.Vw
open Go.RowKit Dat Go.ChangeShapes Go.WideShapes Go.ChangeAt
section
variable {P:Program}
theorem l_S {W W':World}{n:String}{cs:Array Value}(h:W.var? P n=some cs)(hb:Below W.heap.size W W'):W'.var? P n=some cs:=by
 unfold World.var? at h ⊢
 cases hg:P.globalNamed n with
 | none=>simp [hg] at h
 | some g =>
  simp only [hg,Option.bind_some] at h ⊢
  have hlt:g<W.heap.size:=by
   rcases Nat.lt_or_ge g W.heap.size with h' | h'
   ·exact h'
   ·simp [Array.getElem?_eq_none h'] at h
  rw [hb.block g hlt];exact h
theorem l_T {H:Type}{enc:TypeId×Value->H}{f:Func}{s:ChangeSpec}{apart fresh handsOn again:Bool}{W W':World}{args:Array Value}{ds gs:List (DataW H)}{before q:List MemPlace}{tb:TypeId}(hl:laidOutB P=true)(hread:∀t∈f.params.toList,P.readableRec t=true/\t<P.types.size)
  (hb:Below W.heap.size W W') (hW:DataW.Whole enc P f.params.toList s.vars apart W args.toList ds gs before) (hres:f.resultTypes = #[tb]) (htb:P.underlying tb=some .bool)
  (I:∀sp:Nat->Bool,DataW.TrodVars enc P W sp s.vars gs q) (G:∀sp:Nat->Bool,DataW.TrodVars enc P W' sp s.vars gs q) (hfn:s.fn H (ds++gs)={ results:=[.lit (.bool true)],args:=ds,vars:=gs }) :
  s.post enc P f apart fresh handsOn again W args (.bool true) W':=by
 have hlt:∀x∈before,x.block<W.heap.size:=fun p hp=>hW.lt p hp
 have hW':=hW;obtain ⟨p,q',hA,hV,rfl,hz,hn⟩:=hW;obtain ⟨_,rfl⟩:=hV.unique<|I _;have hA':=fun sp hsp=>j_x hl hb _ _ _ _ hread hA (fun x hx=>hlt x<|List.mem_append_left _ hx) sp hsp
 have hr:∀(b:Nat)(sp:Nat->Bool)(hd:Bool),DataW.TrodAll enc P W' b sp hd f.resultTypes.toList ((Value.bool true).resultList f.resultTypes.size) (s.fn H<|ds++gs).results []:=fun b sp hd=>by
  rw [hfn,hres];exact trodAll_cons_mk (shut_bool htb _) trodAll_mk0
 have hvs:∀sp:Nat->Bool,DataW.TrodVars enc P W' sp s.vars (s.fn H<|ds++gs).vars q':=fun sp=>by rw [hfn];exact G sp
 refine ⟨ds,gs,p++q',[],p,q',hW',hr _ _ _,by rw [hfn];exact hA' _ (fun b hb=>by simpa using hb),hvs _,hb.frame _,fun _=>⟨?_,([.lit (.bool true)]:List (DataW H))++ds,gs,([]++p)++q',⟨[]++p,q',?_,?_,rfl,?_,?_⟩,?_⟩⟩
 ·exact ok_one hres rfl<|okWide_bool_mk htb _
 ·have h1:=hr 0 (fun _=>true) true
  rw [hfn] at h1
  exact trodAll_append (hA' _<|fun _ _=>rfl) h1
 ·exact G _
 ·intro b off hp;have hp':MemPlace.cell b off∈p++q':=by simpa using hp
  have:=hlt _ hp'
  rw [hb.frozen (p:=⟨b,off,none⟩) this]
  exact hz b off hp'
 ·intro ha;have:=hn ha;simpa using this
 ·intro x hx _;simpa using hx
end
end Go.Vw
namespace Go.Vw
open Go.RowKit Dat
theorem n_x {x y:Int}(h1 : -9223372036854775808<=x+y)(h2:x+y<=9223372036854775807):h_ x y=x+y:=by
 unfold h_;rw [IntKind.wrap_i64];omega
theorem a_y {x y:Int}(h1 : -9223372036854775808<=x - y)(h2:x - y<=9223372036854775807):G_ x y=x - y:=by
 unfold G_;rw [IntKind.wrap_i64];omega
theorem d_8 {x y:Int}(h1 : -9223372036854775808<=x * y)(h2:x * y<=9223372036854775807):a_2 x y=x * y:=by
 unfold a_2;rw [IntKind.wrap_i64];omega
theorem i_p {x y:Int}(G:0<=x)(hx:x<=9223372036854775807)(hy:0<y):b_7 x y=x / y:=by
 unfold b_7
 rw [Int.tdiv_eq_ediv_of_nonneg G,IntKind.wrap_i64]
 have h1:=Int.ediv_nonneg G<|Int.le_of_lt hy;have h2:=Int.ediv_le_self y G
 omega
theorem h_1 {x y:Int}(G:0<=x):a_u x y=x % y:=by
 unfold a_u;exact Int.tmod_eq_emod_of_nonneg G
theorem n_y {a b:UInt8}:byteI a=byteI b ↔ a=b:=by
 unfold byteI
 constructor
 ·intro h;have:a.toNat=b.toNat:=by omega
  exact UInt8.toNat_inj.1 this
 ·rintro rfl;rfl
section
variable {α:Type}
theorem i_q {l:List α}{k:Nat}(h:k<l.length):idx l (k:Int)=some l[k]:=by rw [l_j];simp [h]
theorem d_a {l:List α}{i:Int}(G:0<=i)(h:i.toNat<l.length):idx l i=some l[i.toNat]:=by
 unfold idx;rw [if_pos G];simp [h]
theorem b_o {l:List α}(h:0<l.length):idx l 0=some l[0]:=i_q (k:=0) h
theorem h_2 {l:List α}(h:1<l.length):idx l 1=some l[1]:=i_q (k:=1) h
theorem h_3 {l:List α}{a b:Int}(G:0<=a)(h1:a<=b)(h2:b<=l.length):slc l a b=some ((l.take b.toNat).drop a.toNat):=by
 unfold slc;rw [if_pos ⟨G,h1,h2⟩]
theorem a_F {l:List α}{x:α}(h:l.length<LIM):psh l x=some (l++[x]):=by unfold psh;rw [if_pos h]
theorem c_p {l m:List α}(h:l.length+m.length<=LIM):app l m=some (l++m):=by unfold app;rw [if_pos h]
theorem a_C {s t:Str}(h:s.b.length+t.b.length<=LIM):cat s t=some ⟨s.b++t.b⟩:=by unfold cat;rw [if_pos h]
theorem i_r {l:List α}{k:Nat}{x:α}(h:k<l.length):upd l (k:Int) x=some (l.set k x):=by
 unfold upd;rw [if_pos ⟨by omega,by omega⟩];rfl
theorem n_z {l:List α}{i:Int}{x:α}(G:0<=i)(h:i<l.length):upd l i x=some (l.set i.toNat x):=by
 unfold upd;rw [if_pos ⟨G,h⟩]
theorem mk0_of {z:α}{n:Nat}(h:n<=LIM):mk0 z (n:Int)=some (List.replicate n z):=by
 unfold mk0;rw [if_pos ⟨by omega,by omega⟩];simp
theorem k_p {z:α}{n:Int}(G:0<=n)(h:n<=LIM):mk0 z n=some (List.replicate n.toNat z):=by
 unfold mk0;rw [if_pos ⟨G,h⟩]
end
section
variable {σ ρ:Type}
theorem k_q {body:Nat->σ->Option (Out σ ρ)}(st:Nat->σ):∀n k,(∀j,k<=j->j<k+n->body j (st j)=some (.next<|st<|j+1))->y_ body n k (st k)=some (.inl<|st<|k+n)
 | 0,k,_=>rfl
 | n+1,k,h=>by
  have h1:=h k (Nat.le_refl _) (by omega);have h2:=k_q st n (k+1)<|fun j a b=>h j (by omega) (by omega);unfold y_
  rw [h1]
  simp only
  rw [h2,show k+1+n=k+(n+1) by omega]
theorem c_7 {body:Nat->σ->Option (Out σ ρ)}(st:Nat->σ){n:Nat}(h:∀j,j<n->body j (st j)=some (.next<|st<|j+1)):y_ body n 0 (st 0)=some (.inl<|st n):=by
 have:=k_q st n 0<|fun j _ b=>h j (by omega)
 simpa using this
theorem forN_ret' {body:Nat->σ->Option (Out σ ρ)}(st:Nat->σ){r:ρ}:∀n k j0,k<=j0->j0<k+n->(∀j,k<=j->j<j0->body j (st j)=some (.next<|st<|j+1))->body j0 (st j0)=some (.ret r)->y_ body n k (st k)=some (.inr r)
 | 0,k,j0,a,b,_,_=>by omega
 | n+1,k,j0,a,b,h,hr=>by
  unfold y_
  by_cases hk:k=j0
  ·subst hk;rw [hr]
  ·rw [h k (Nat.le_refl _) (by omega)]
   exact forN_ret' st n (k+1) j0 (by omega) (by omega) (fun j c d=>h j (by omega) d) hr
theorem h_4 {body:Nat->σ->Option (Out σ ρ)}(st:Nat->σ){r:ρ}{n j0:Nat}(G:j0<n)(h:∀j,j<j0->body j (st j)=some (.next<|st<|j+1))(hr:body j0 (st j0)=some (.ret r)):y_ body n 0 (st 0)=some (.inr r) :=
 forN_ret' st n 0 j0 (by omega) (by omega) (fun j _ b=>h j b) hr
theorem f_k {body:Nat->Unit->Option (Out Unit ρ)}{n:Nat}(p:Nat->Bool)(r:Nat->ρ)(h:∀k,k<n->(∀j,j<k->p j=false)->body k ()=some (if p k=true then .ret (r k) else .next ())) :
  y_ body n 0 ()=some (match (List.range n).find? p with | some k=>.inr (r k) | none=>.inl ()):=by
 cases hf:(List.range n).find? p with
 | none =>
  have hn:∀k,k<n->p k=false:=fun k hk=>by
   have:=List.find?_eq_none.1 hf k<|List.mem_range.2 hk
   simpa using this
  exact c_7 (fun _=>()) (fun j hj=>by rw [h j hj (fun i hi=>hn i (by omega)),hn j hj];rfl)
 | some k =>
  obtain ⟨hp,as,bs,hl,has⟩:=List.find?_eq_some_iff_append.1 hf
  have hk:as.length<n/\as.length=k:=by
   have h1:as.length<(List.range n).length:=by rw [hl];simp
   simp at h1
   refine ⟨h1,?_⟩;have h2:(List.range n)[as.length]? = some k:=by rw [hl];simp
   rw [List.getElem?_range h1] at h2
   exact Option.some.inj h2
  obtain ⟨h1,rfl⟩:=hk
  have hb:∀j,j<as.length->p j=false:=fun j hj=>by
   have h2:(List.range n)[j]? = some (as[j]):=by rw [hl,List.getElem?_append_left hj];simp
   rw [List.getElem?_range (by omega)] at h2
   have h3:=has as[j] (List.getElem_mem hj)
   rw [← Option.some.inj h2] at h3
   simpa using h3
  exact h_4 (fun _=>()) h1 (fun j hj=>by rw [h j (by omega) (fun i hi=>hb i (by omega)),hb j hj];rfl) (by rw [h _ h1 hb,if_pos hp])
theorem n_A {α:Type}(l:List α)(p:α->Bool)(q:Nat->Bool)(h:∀k (hk:k<l.length),q k=p l[k]):(List.range l.length).any q=l.any p:=by
 rw [Bool.eq_iff_iff]
 simp only [List.any_eq_true,List.mem_range]
 constructor
 ·rintro ⟨k,hk,hq⟩;exact ⟨l[k],List.getElem_mem hk,by rw [← h k hk];exact hq⟩
 ·rintro ⟨x,hx,hp⟩;obtain ⟨k,hk,rfl⟩:=List.getElem_of_mem hx;exact ⟨k,hk,by rw [h k hk];exact hp⟩
theorem d_b {body:Nat->Unit->Option (Out Unit ρ)}{n:Nat}(p:Nat->Bool)(r:ρ)(h:∀k,k<n->(∀j,j<k->p j=false)->body k ()=some (if p k=true then .ret r else .next ())) :
  y_ body n 0 ()=some (if (List.range n).any p=true then .inr r else .inl ()):=by
 rw [f_k p (fun _=>r) h]
 cases hf:(List.range n).find? p with
 | none =>
  have:(List.range n).any p=false:=by
   rw [List.any_eq_false];exact fun x hx=>by simpa using List.find?_eq_none.1 hf x hx
  rw [this];rfl
 | some k =>
  have:(List.range n).any p=true:=List.any_eq_true.2 ⟨k,List.mem_of_find?_eq_some hf,List.find?_some hf⟩
  rw [this];rfl
theorem e_i {α:Type}{body:Nat->Unit->Option (Out Unit ρ)}{l:List α}(p:α->Bool)(r:ρ)(h:∀k (hk:k<l.length),body k ()=some (if p l[k]=true then .ret r else .next ())) :
  y_ body l.length 0 ()=some (if l.any p=true then .inr r else .inl ()):=by
 rw [d_b (fun k=>if hk:k<l.length then p l[k] else false) r (fun k hk _=>by rw [dif_pos hk];exact h k hk)]
 rw [n_A l p _ (fun k hk=>by rw [dif_pos hk])]
theorem iter_brk' {step:σ->Option (Out σ ρ)}(st:Nat->σ){s:σ}:∀m k j0,k<=j0->j0<k+m->(∀j,k<=j->j<j0->step (st j)=some (.next<|st<|j+1))->step (st j0)=some (.brk s)->a_6 step m (st k)=some (.inl s)
 | 0,k,j0,a,b,_,_=>by omega
 | m+1,k,j0,a,b,h,hr=>by
  unfold a_6
  by_cases hk:k=j0
  ·subst hk;rw [hr]
  ·rw [h k (Nat.le_refl _) (by omega)]
   exact iter_brk' st m (k+1) j0 (by omega) (by omega) (fun j c d=>h j (by omega) d) hr
theorem n_B {step:σ->Option (Out σ ρ)}(st:Nat->σ){s:σ}{m j0:Nat}(G:j0<m)(h:∀j,j<j0->step (st j)=some (.next<|st<|j+1))(hr:step (st j0)=some (.brk s)):a_6 step m (st 0)=some (.inl s) :=
 iter_brk' st m 0 j0 (by omega) (by omega) (fun j _ b=>h j b) hr
theorem iter_ret' {step:σ->Option (Out σ ρ)}(st:Nat->σ){r:ρ}:∀m k j0,k<=j0->j0<k+m->(∀j,k<=j->j<j0->step (st j)=some (.next<|st<|j+1))->step (st j0)=some (.ret r)->a_6 step m (st k)=some (.inr r)
 | 0,k,j0,a,b,_,_=>by omega
 | m+1,k,j0,a,b,h,hr=>by
  unfold a_6
  by_cases hk:k=j0
  ·subst hk;rw [hr]
  ·rw [h k (Nat.le_refl _) (by omega)]
   exact iter_ret' st m (k+1) j0 (by omega) (by omega) (fun j c d=>h j (by omega) d) hr
theorem n_C {step:σ->Option (Out σ ρ)}(st:Nat->σ){r:ρ}{m j0:Nat}(G:j0<m)(h:∀j,j<j0->step (st j)=some (.next<|st<|j+1))(hr:step (st j0)=some (.ret r)):a_6 step m (st 0)=some (.inr r) :=
 iter_ret' st m 0 j0 (by omega) (by omega) (fun j _ b=>h j b) hr
end
theorem k_r {s:Str}{p:Nat}(h:p<s.b.length)(ha:s.b[p].toNat<128):dec s p=((s.b[p].toNat:Int),1):=by
 have hq:p<(⟨s.b.toArray⟩:ByteArray).size:=by simpa [ByteArray.size] using h
 have hb:(⟨s.b.toArray⟩:ByteArray)[p]'hq=s.b[p]:=rfl;unfold dec
 rw [decode_ascii _ p hq (by rw [hb];exact ha),hb]
theorem n_D {s:Str}{p:Nat}(h:p<s.b.length)(ha:128<=s.b[p].toNat):128<=(dec s p).1:=by
 have hq:p<(⟨s.b.toArray⟩:ByteArray).size:=by simpa [ByteArray.size] using h
 have hb:(⟨s.b.toArray⟩:ByteArray)[p]'hq=s.b[p]:=rfl;unfold dec;have:=(decode_high _ p hq (by rw [hb];exact ha)).1
 simp only
 omega
abbrev bF_:=@Bool.false_eq_true
abbrev dT_:=@decide_eq_true
abbrev dF_:=@decide_eq_false
abbrev bQ_:=@beq_self_eq_true
abbrev mT_:=@List.mem_cons_of_mem
abbrev mS_:=@List.mem_cons_self
abbrev gE_:=@List.getElem_mem
abbrev oI_:=@Option.some.injEq
abbrev gG_:=@List.getElem?_eq_getElem
abbrev gD_:=@List.getD_eq_getElem?_getD
abbrev aE_:=@Bool.and_eq_true
abbrev dE_:=@decide_eq_true_eq
abbrev tN_:=@Int.toNat_natCast
abbrev gS_:=@List.getElem?_eq_some_iff
abbrev iP_:=@if_pos
abbrev iN_:=@if_neg
abbrev fF_:=@if_false
abbrev fT_:=@if_true
abbrev gN_:=@List.getElem?_eq_none
abbrev nT_:=@Bool.not_true
abbrev ix_:=@i_q
abbrev ia_:=@n_x
abbrev lC_:=@List.length_cons
abbrev bN_:=@bne_self_eq_false
abbrev dC_:=@List.drop_eq_getElem_cons
end Go.Vw
