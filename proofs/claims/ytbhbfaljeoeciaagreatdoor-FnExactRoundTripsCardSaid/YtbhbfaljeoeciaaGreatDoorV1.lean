import Derived.Test.YtbhbfaljeoeciaaGreatDoorV0
import Derived.Carry
import Derived.Deep.DeepHandedRow
import Derived.WalkKit
import Derived.ProofKit
import Derived.OpenShut
import Derived.Laws.RangeAny
set_option linter.unusedVariables false
namespace Go.Vw
def c_2 (x1:a_O)(x2:List UInt8):Option (List UInt8) :=
 bd (app x1.out x2) fun G=>some G
def g_b (x1:List UInt8)(x2:UInt8):Option (List UInt8) :=
 bd (mk0 ()<|m_ (x1.length:Int) 1) fun a0=>bd (z_ (σ:=List UInt8) (ρ:=List UInt8) (fun I=>(fun G=>bd (idx x1 (I:Int)) fun H=>bd (α:=Bool) (if ((byteI H)==(byteI x2))=true then some true else some ((byteI H)==(byteI (92:UInt8)))) (fun J=>bd (α:=List UInt8) (if J=true then bd (psh G (92:UInt8)) fun L=>some L else some G)<|fun O=>bd (psh O H) fun V=>some<|.next V))) x1.length 0 ([]:List UInt8))<|el (fun G=>bd (psh G x2) fun W=>some W)<|fun Y=>some Y
def e_g (x1:a_O):Option Bool :=
 some (decide<|400<(x1.out.length:Int))
def e_h (n:Nat)(x1:Int)(x2:Int):Option (List UInt8) :=
 bd (α:=Bool) (bd (b_X x2 1 4) fun J=>if (!J)=true then some true else if (decide<|x1<0)=true then some true else bd (nn<|a_f 8 x2) fun Y=>some<|decide<|(b_3 .i64 1<|a_f 8 x2)<=x1) (fun L=>if L=true then some ([]:List UInt8) else bd (mk0 (0:UInt8) x2) fun O=>bd (U_ (σ:=Int×(List UInt8)×Int) (ρ:=List UInt8) (un3 fun H I G=>if (decide<|0<=G)=true then bd (upd I G<|mkB H) fun V=>some (.next (a_y .i64 H 8,V,r_ G 1)) else some (.brk (H,I,G))) n (x1,O,r_ x2 1))<|el (un3 fun H I G=>some I)<|fun W=>some W)
def g_c (n:Nat)(x1:Int)(x2:Int):Option (List UInt8) :=
 bd (e_h n x1 x2) fun J=>bd (U_ (σ:=(List UInt8)×Int×Int) (ρ:=List UInt8) (un3 fun G H I=>if (decide<|H<I)=true then bd (α:=List UInt8) (bd (idx G I) fun L=>bd (idx G H) fun O=>bd (upd G H L) fun V=>bd (upd V I O) fun W=>some W) (fun Y=>some<|.next (Y,m_ H 1,r_ I 1)) else some (.brk (G,H,I))) n (J,0,r_ (J.length:Int) 1))<|el (un3 fun G H I=>some G)<|fun a0=>some a0
def e_i (n:Nat)(x1:g_)(x2:Int):Option (List UInt8) :=
 if x1.little=true then bd (g_c n x2 x1.size) fun G=>some G else bd (e_h n x2 x1.size) fun H=>some H
def d_J (n:Nat)(x1:Int)(x2:Int)(x3:a_O):Option (List UInt8) :=
 bd (idx x3.d.rules x1) fun G=>bd (e_i n G x2) fun H=>bd (c_2 x3 H) fun I=>some I
structure g_d where
 impl_printer_value:a_O->Int->Val->Option (List UInt8)
 impl_printer_items:a_O->Int->Val->Option (List UInt8)
def b_R (n:Nat)(rec:g_d)(x1:a_O)(x2:Int)(x3:Val):Option (List UInt8) :=
 bd (idx x1.d.rules x2) fun G=>bd (α:=List UInt8) (if (G.kind==1)=true then bd (d_J n x2 x3.number x1) fun J=>some J else bd (α:=List UInt8) (if (G.kind==2)=true then bd (c_2 x1 G.bytes) fun L=>some L else bd (α:=List UInt8) (if (G.kind==3)=true then bd (c_2 x1 x3.bytes) fun O=>some O else bd (α:=List UInt8) (if (G.kind==4)=true then bd (idx G.kids 0) fun V=>bd (d_J n V (x3.bytes.length:Int) x1) fun W=>bd (c_2 (⟨(⟨x1.d.rules⟩:c_),W⟩:a_O) x3.bytes) fun Y=>some Y else bd (α:=List UInt8) (if (G.kind==5)=true then bd (idx G.kids 0) fun a0=>bd (d_J n a0 (x3.items.length:Int) x1) fun a1=>some a1 else bd (α:=List UInt8) (if (G.kind==7)=true then bd (idx G.kids 0) fun a2=>bd (d_J n a2 x3.number x1) fun a3=>some a3 else bd (α:=List UInt8) (if (G.kind==8)=true then bd (c_2 x1 [mkB (x3.items.length:Int)]) fun a4=>some a4 else bd (α:=List UInt8) (if (G.kind==10)=true then bd (idx G.bytes 0) fun a5=>bd (g_b x3.bytes a5) fun a6=>bd (c_2 x1 a6) fun a7=>some a7 else some x1.out) (fun a8=>some a8)) (fun a9=>some a9)) (fun aa=>some aa)) (fun ab=>some ab)) (fun ad=>some ad)) (fun ae=>some ae)) (fun af=>some af)) (fun I=>bd (rec.impl_printer_items (⟨(⟨x1.d.rules⟩:c_),I⟩:a_O) x2 x3) fun H=>bd (α:=List UInt8) (if (G.kind==9)=true then bd (slc H (I.length:Int) (H.length:Int)) fun ah=>bd (e_z ah) fun ai=>bd (c_2 (⟨(⟨x1.d.rules⟩:c_),H⟩:a_O) [mkB ai]) fun aj=>some aj else some H)<|fun ak=>some ak)
def g_e (n:Nat)(rec:g_d)(x1:a_O)(x2:Int)(x3:Val):Option (List UInt8) :=
 bd (z_ (σ:=List UInt8) (ρ:=List UInt8) (fun H=>(fun G=>bd (e_g (⟨(⟨x1.d.rules⟩:c_),G⟩:a_O)) fun I=>if I=true then some (.ret G) else bd (idx x3.items (H:Int)) fun J=>bd (c_Q (⟨x1.d.rules⟩:c_) x2 x3 (H:Int)) fun L=>bd (rec.impl_printer_value (⟨(⟨x1.d.rules⟩:c_),G⟩:a_O) L J) fun O=>some<|.next O)) x3.items.length 0 x1.out) (el (fun G=>some G)<|fun V=>some V)
def c_e:Nat->g_d
 | 0=>⟨fun _ _ _=>none,fun _ _ _=>none⟩
 | n+1=>⟨b_R n<|c_e n,g_e n<|c_e n⟩
def g_f (n:Nat):=(c_e n).impl_printer_value
def i_l (n:Nat)(x1:c_)(x2:Int)(x3:Val):Option ((List UInt8)×Bool) :=
 bd (e_3 n x1 x2 x3) fun H=>if (!H)=true then some (([]:List UInt8),false) else bd (g_f n (⟨(⟨x1.rules⟩:c_),([]:List UInt8)⟩:a_O) x2 x3) fun G=>bd (e_g (⟨(⟨x1.rules⟩:c_),G⟩:a_O)) fun I=>if I=true then some (([]:List UInt8),false) else some (G,true)
def g_g (n:Nat)(x1:c_)(x2:Val):Option ((List UInt8)×Bool) :=
 bd (d_W x1) fun G=>bd2 (i_l n x1 G x2) fun H I=>some (H,I)
end Go.Vw
namespace Go.Vw
open Go.RowKit Dat
structure Z_ where
 d:c_
 text:Str
 at_:Int
deriving Inhabited
end Go.Vw
namespace Go.Vw
def e_M (n:Nat)(x1:c_)(x2:List UInt8):Option ((List UInt8)×Bool) :=
 bd3 (d_U n x1 x2) fun G L H=>if (H != 0)=true then some (([]:List UInt8),false) else bd2 (g_M n x1 G) fun I J=>some (I,J)
def e_N (n:Nat)(x1:Str)(x2:Int):Option (Int×Int) :=
 bd (U_ (σ:=Int×Int) (ρ:=Int×Int) (un2 fun H G=>bd (α:=Bool) (bd (a_L G 0<|r_ (x1.b.length:Int) 1) fun I=>if I=true then if (decide<|G<(m_ x2 10))=true then bd (idx x1.b G) fun J=>if (decide<|(byteI (48:UInt8))<=(byteI J))=true then bd (idx x1.b G) fun L=>some (decide<|(byteI L)<=(byteI (57:UInt8))) else some false else some false else some false) (fun O=>if O=true then bd (idx x1.b G) fun V=>some (.next (m_ (a_f H 10)<|byteI<|mkB<|byteI V - byteI (48:UInt8),m_ G 1)) else some (.brk (H,G)))) n (0,x2)) (el (un2 fun H G=>some (H,G))<|fun W=>some W)
def d_k (x1:Str)(x2:Int)(x3:UInt8):Option Bool :=
 bd (α:=Bool) (if (decide<|x2<(x1.b.length:Int))=true then bd (idx x1.b x2) fun G=>some ((byteI G)==(byteI x3)) else some false) (fun H=>some H)
def d_D (x1:UInt8):Option Int :=
 bd (α:=Bool) (if (decide<|(byteI (48:UInt8))<=(byteI x1))=true then some (decide<|(byteI x1)<=(byteI (57:UInt8))) else some false) (fun G=>if G=true then some (byteI<|mkB<|byteI x1 - byteI (48:UInt8)) else bd (α:=Bool) (if (decide<|(byteI (97:UInt8))<=(byteI x1))=true then some (decide<|(byteI x1)<=(byteI (102:UInt8))) else some false) (fun H=>if H=true then some (m_ (byteI<|mkB<|byteI x1 - byteI (97:UInt8)) 10) else some (-1)))
def f_A (n:Nat)(x1:Str):Option ((List UInt8)×Bool) :=
 if ((b_2 (x1.b.length:Int) 2) != 0)=true then some (([]:List UInt8),false) else bd (U_ (σ:=(List UInt8)×Int) (ρ:=(List UInt8)×Bool) (un2 fun H G=>if (decide<|G<(x1.b.length:Int))=true then bd (idx x1.b G) fun L=>bd (d_D L) fun I=>bd (idx x1.b<|m_ G 1) fun O=>bd (d_D O) fun J=>bd (α:=Bool) (if (decide<|I<0)=true then some true else some (decide<|J<0)) (fun V=>if V=true then some (.ret (([]:List UInt8),false)) else bd (psh H<|mkB<|m_ (a_f I 16) J) fun W=>some<|.next (W,m_ G 2)) else some (.brk (H,G))) n (([]:List UInt8),0)) (el (un2 fun H G=>some (H,true))<|fun Y=>some Y)
def f_B (n:Nat)(x1:Str)(x2:Int):Option ((List UInt8)×Int) :=
 bd (a_L x2 0 (x1.b.length:Int)) fun H=>if (!H)=true then some (([]:List UInt8),x2) else bd (U_ (σ:=Int) (ρ:=(List UInt8)×Int) (fun G=>bd (α:=Bool) (if (decide<|(m_ G 1)<(x1.b.length:Int))=true then bd (idx x1.b G) fun I=>bd (d_D I) fun J=>if (decide<|0<=J)=true then bd (idx x1.b<|m_ G 1) fun L=>bd (d_D L) fun O=>some (decide<|0<=O) else some false else some false) (fun V=>if V=true then some (.next<|m_ G 2) else some (.brk G))) n x2) (el (fun G=>bd (b_O x1 x2 G) fun W=>bd2 (f_A n W) fun Y a1=>some (Y,G))<|fun a0=>some a0)
structure j_s where
 spec_l10Read:c_->Int->Str->Int->Option (Val×Int)
 spec_l10Items:c_->g_->Int->Str->Int->UInt8->Option ((List Val)×Int)
def f_C (n:Nat)(rec:j_s)(x1:c_)(x2:Int)(x3:Str)(x4:Int):Option (Val×Int) :=
 bd (idx x1.rules x2) fun G=>if (decide<|(x3.b.length:Int)<=x4)=true then some ((⟨0,([]:List UInt8),([]:List Val)⟩:Val),m_ (x3.b.length:Int) 1) else if (G.kind==1)=true then bd2 (e_N n x3 x4) fun L O=>some ((⟨L,([]:List UInt8),([]:List Val)⟩:Val),O) else if (G.kind==2)=true then some ((⟨0,([]:List UInt8),([]:List Val)⟩:Val),m_ x4 1) else if (G.kind==5)=true then bd2 (rec.spec_l10Items x1 G 0 x3 (m_ x4 1) (93:UInt8)) fun V W=>some ((⟨0,([]:List UInt8),V⟩:Val),W) else if (G.kind==6)=true then bd2 (rec.spec_l10Items x1 G 0 x3 (m_ x4 1) (125:UInt8)) fun Y a0=>some ((⟨0,([]:List UInt8),Y⟩:Val),a0) else if (G.kind==7)=true then bd2 (e_N n x3 x4) fun J a1=>bd2 (rec.spec_l10Items x1 G J x3 (m_ a1 1) (62:UInt8)) fun a2 a3=>some ((⟨J,([]:List UInt8),a2⟩:Val),a3) else if (G.kind==8)=true then bd (idx x3.b x4) fun a4=>if ((byteI a4)==(byteI (45:UInt8)))=true then some ((⟨0,([]:List UInt8),([]:List Val)⟩:Val),m_ x4 1) else bd (α:=Int×(List UInt8)×(List Val)×Int) (bd (idx G.kids 0) fun a5=>bd2 (rec.spec_l10Read x1 a5 x3<|m_ x4 1) fun H a6=>some (H.number,H.bytes,H.items,a6)) (un4 fun a7 a8 a9 aa=>some ((⟨0,([]:List UInt8),[(⟨a7,a8,a9⟩:Val)]⟩:Val),aa)) else if (G.kind==9)=true then bd (α:=Int×(List UInt8)×(List Val)×Int) (bd (idx G.kids 0) fun ab=>bd2 (rec.spec_l10Read x1 ab x3<|m_ x4 1) fun I ad=>some (I.number,I.bytes,I.items,ad)) (un4 fun ae af ah ai=>some ((⟨0,([]:List UInt8),[(⟨ae,af,ah⟩:Val)]⟩:Val),m_ ai 1)) else bd2 (f_B n x3<|m_ x4 1) fun aj ak=>some ((⟨0,aj,([]:List Val)⟩:Val),ak)
def f_D (n:Nat)(rec:j_s)(x1:c_)(x2:g_)(x3:Int)(x4:Str)(x5:Int)(x6:UInt8):Option ((List Val)×Int) :=
 bd (U_ (σ:=Int×(List Val)) (ρ:=(List Val)×Int) (un2 fun H G=>bd (α:=Bool) (bd (d_k x4 H x6) fun L=>if (!L)=true then some (decide<|H<(x4.b.length:Int)) else some false) (fun O=>if O=true then bd (α:=Sum Int<|Out (Int×(List Val))<|(List Val)×Int) (if (decide<|0<(G.length:Int))=true then bd (d_k x4 H (44:UInt8)) fun V=>if (!V)=true then some (.inr<|.ret (G,m_ (x4.b.length:Int) 1)) else some (.inl<|m_ H 1) else some (.inl H)) (el (fun I=>bd (b_d x2 x3 (G.length:Int)) fun J=>bd (α:=Bool) (if (decide<|J<0)=true then some true else some (decide<|40<(G.length:Int))) (fun W=>if W=true then some (.ret (G,m_ (x4.b.length:Int) 1)) else bd (α:=Int) (if (x2.kind==6)=true then bd (idx x2.names (G.length:Int)) fun Y=>some (m_ (m_ I (Y.b.length:Int)) 1) else some I) (fun a0=>bd2 (rec.spec_l10Read x1 J x4 a0) fun a1 a2=>bd (psh G a1) fun a3=>some<|.next (a2,a3)))) some) else some (.brk (H,G)))) n (x5,([]:List Val))) (el (un2 fun H G=>some (G,m_ H 1))<|fun a4=>some a4)
def b_Z:Nat->j_s
 | 0=>⟨fun _ _ _ _=>none,fun _ _ _ _ _ _=>none⟩
 | n+1=>⟨f_C n<|b_Z n,f_D n<|b_Z n⟩
def l_9 (n:Nat):=(b_Z n).spec_l10Read
def f_E (n:Nat)(x1:c_)(x2:Int)(x3:Str):Option (Val×Bool) :=
 bd (e_w x1 x2) fun H=>if (!H)=true then some ((⟨0,([]:List UInt8),([]:List Val)⟩:Val),false) else bd2 (l_9 n x1 x2 x3 0) fun G I=>bd (α:=Bool) (if (I != (x3.b.length:Int))=true then some true else bd (e_H n x1 x2 G) fun J=>if (J.b != x3.b)=true then some true else some (x3.b==(⟨[]⟩:Str).b)) (fun L=>if L=true then some ((⟨0,([]:List UInt8),([]:List Val)⟩:Val),false) else some (G,true))
def f_F (n:Nat)(x1:c_)(x2:List UInt8)(x3:List UInt8):Option Bool :=
 bd3 (d_U n x1 x2) fun G V H=>bd3 (d_U n x1 x3) fun I W J=>bd (α:=Bool) (if (H==0)=true then if (J==0)=true then bd (f_Z n G I) fun L=>some L else some false else some false)<|fun O=>some O
def f_G (n:Nat)(x1:c_)(x2:List UInt8):Option Bool :=
 bd2 (e_M n x1 x2) fun G H=>bd (α:=Bool) (if H=true then bd (d_e G x2) fun I=>some I else some false)<|fun J=>some J
def f_H (n:Nat)(x1:c_)(x2:List UInt8):Option Bool :=
 bd3 (d_U n x1 x2) fun H a8 J=>if (J != 0)=true then some true else bd2 (e_M n x1 x2) fun I L=>bd (α:=Int×(List UInt8)×(List Val)×Bool) (bd (d_T x1) fun O=>bd (d_T x1) fun V=>bd (e_H n x1 V H) fun W=>bd2 (f_E n x1 O W) fun G Y=>some (G.number,G.bytes,G.items,Y)) (un4 fun a0 a1 a2 a3=>bd (α:=Bool) (if L=true then bd (f_F n x1 x2 I) fun a4=>if a4=true then bd (f_G n x1 I) fun a5=>if a5=true then if a3=true then bd (f_Z n H (⟨a0,a1,a2⟩:Val)) fun a6=>some a6 else some false else some false else some false else some false)<|fun a7=>some a7)
def e_O (n:Nat)(x1:c_)(x2:List UInt8):Option ((List UInt8)×Bool) :=
 bd3 (d_Z n x1 x2) fun G L H=>if (H != 0)=true then some (([]:List UInt8),false) else bd2 (g_g n x1 G) fun I J=>some (I,J)
def f_I (n:Nat)(x1:Str)(x2:Int):Option (Int×Int) :=
 bd (α:=Bool) (if (decide<|x2<0)=true then some true else some (decide<|(x1.b.length:Int)<=x2)) (fun I=>if I=true then some (0,x2) else bd (U_ (σ:=Int×Int) (ρ:=Int×Int) (un2 fun H G=>bd (α:=Bool) (if (decide<|G<(x1.b.length:Int))=true then if (decide<|(r_ G x2)<10)=true then bd (idx x1.b G) fun J=>if (decide<|(byteI (48:UInt8))<=(byteI J))=true then bd (idx x1.b G) fun L=>some (decide<|(byteI L)<=(byteI (57:UInt8))) else some false else some false else some false) (fun O=>if O=true then bd (idx x1.b G) fun V=>some (.next (m_ (a_f 10 H)<|byteI<|mkB<|byteI V - byteI (48:UInt8),m_ G 1)) else some (.brk (H,G)))) n (0,x2)) (el (un2 fun H G=>some (H,G))<|fun W=>some W))
def e_P (n:Nat)(x1:Z_):Option (Int×Bool×Int) :=
 bd2 (f_I n x1.text x1.at_) fun H G=>some (H,decide<|x1.at_<G,G)
def a_H (x1:Z_)(x2:Str):Option (Bool×Int) :=
 bd (α:=Bool) (if (decide<|(r_ (x1.text.b.length:Int) x1.at_)<(x2.b.length:Int))=true then some true else bd (b_O x1.text x1.at_<|m_ x1.at_ (x2.b.length:Int)) fun G=>some<|G.b != x2.b) (fun H=>if H=true then some (false,x1.at_) else some (true,m_ x1.at_ (x2.b.length:Int)))
def d_E (x1:UInt8):Option Int :=
 bd (α:=Bool) (if (decide<|(byteI (48:UInt8))<=(byteI x1))=true then some (decide<|(byteI x1)<=(byteI (57:UInt8))) else some false) (fun G=>if G=true then some (byteI<|mkB<|byteI x1 - byteI (48:UInt8)) else bd (α:=Bool) (if (decide<|(byteI (97:UInt8))<=(byteI x1))=true then some (decide<|(byteI x1)<=(byteI (102:UInt8))) else some false) (fun H=>if H=true then some (m_ (byteI<|mkB<|byteI x1 - byteI (97:UInt8)) 10) else some (-1)))
def f_J (n:Nat)(x1:Str)(x2:Int):Option ((List UInt8)×Int) :=
 bd (α:=Bool) (if (decide<|x2<0)=true then some true else some (decide<|(x1.b.length:Int)<x2)) (fun I=>if I=true then some (([]:List UInt8),x2) else bd (U_ (σ:=Int×(List UInt8)) (ρ:=(List UInt8)×Int) (un2 fun G H=>bd (α:=Bool) (if (decide<|(m_ G 1)<(x1.b.length:Int))=true then bd (idx x1.b G) fun J=>bd (d_E J) fun L=>if (decide<|0<=L)=true then bd (idx x1.b<|m_ G 1) fun O=>bd (d_E O) fun V=>some (decide<|0<=V) else some false else some false) (fun W=>if W=true then bd (idx x1.b G) fun Y=>bd (idx x1.b<|m_ G 1) fun a0=>bd (d_E Y) fun a1=>bd (d_E a0) fun a2=>bd (psh H<|mkB<|b_n .i64 (· ||| ·) (b_3 .i64 a1 4) a2) fun a3=>some (.next (m_ G 2,a3)) else some (.brk (G,H)))) n (x2,([]:List UInt8))) (el (un2 fun G H=>some (H,G))<|fun a4=>some a4))
structure f_K where
 impl_textReader_value:Z_->Int->Option (Val×Bool×Int)
 impl_textReader_list:Z_->Int->Option (Val×Bool×Int)
 impl_textReader_parts:Z_->g_->Option (Val×Bool×Int)
 impl_textReader_inner:Z_->Val->Str->Int->Str->Option (Val×Bool×Int)
def f_L (n:Nat)(rec:f_K)(x1:Z_)(x2:Int):Option (Val×Bool×Int) :=
 bd (idx x1.d.rules x2) fun H=>bd (b_M H) fun G=>if (G.1==1)=true then bd3 (e_P n x1) fun V W Y=>some ((⟨V,([]:List UInt8),([]:List Val)⟩:Val),W,Y) else if (G.1==2)=true then bd2 (a_H x1 (⟨[33]⟩:Str)) fun a0 a1=>some ((⟨0,([]:List UInt8),([]:List Val)⟩:Val),a0,a1) else if (G.1==5)=true then bd3 (rec.impl_textReader_list x1 x2) fun a2 a3 a4=>some (a2,a3,a4) else if (G.1==6)=true then bd3 (rec.impl_textReader_parts x1 H) fun a5 a6 a7=>some (a5,a6,a7) else if (G.1==7)=true then bd3 (e_P n x1) fun I a8 J=>if (!a8)=true then some ((⟨I,([]:List UInt8),([]:List Val)⟩:Val),false,J) else bd (c_Q (⟨x1.d.rules⟩:c_) x2 (⟨I,([]:List UInt8),([]:List Val)⟩:Val) 0) fun a9=>bd3 (rec.impl_textReader_inner (⟨(⟨x1.d.rules⟩:c_),x1.text,J⟩:Z_) (⟨I,([]:List UInt8),([]:List Val)⟩:Val) (⟨[60]⟩:Str) a9 (⟨[62]⟩:Str)) fun aa ab ad=>some (aa,ab,ad) else if (G.1==8)=true then bd2 (a_H x1 (⟨[45]⟩:Str)) fun ae L=>if ae=true then some ((⟨0,([]:List UInt8),([]:List Val)⟩:Val),true,L) else bd (idx H.kids 0) fun af=>bd3 (rec.impl_textReader_inner (⟨(⟨x1.d.rules⟩:c_),x1.text,L⟩:Z_) (⟨0,([]:List UInt8),([]:List Val)⟩:Val) (⟨[63]⟩:Str) af (⟨[]⟩:Str)) fun ah ai aj=>some (ah,ai,aj) else if (G.1==9)=true then bd (idx H.kids 0) fun ak=>bd3 (rec.impl_textReader_inner x1 (⟨0,([]:List UInt8),([]:List Val)⟩:Val) (⟨[40]⟩:Str) ak (⟨[41]⟩:Str)) fun al am an=>some (al,am,an) else bd2 (a_H x1 (⟨[120]⟩:Str)) fun ao O=>if (!ao)=true then some ((⟨0,([]:List UInt8),([]:List Val)⟩:Val),false,O) else bd2 (f_J n x1.text O) fun ap aq=>some ((⟨0,ap,([]:List Val)⟩:Val),true,aq)
def f_M (n:Nat)(rec:f_K)(x1:Z_)(x2:Int):Option (Val×Bool×Int) :=
 bd2 (a_H x1 (⟨[91]⟩:Str)) fun Y I=>if (!Y)=true then some ((⟨0,([]:List UInt8),([]:List Val)⟩:Val),false,I) else bd2 (a_H (⟨(⟨x1.d.rules⟩:c_),x1.text,I⟩:Z_) (⟨[93]⟩:Str)) fun a0 J=>if a0=true then some ((⟨0,([]:List UInt8),([]:List Val)⟩:Val),true,J) else bd (U_ (σ:=Int×(List Val)) (ρ:=Val×Bool×Int) (un2 fun L G=>bd (idx x1.d.rules x2) fun a1=>bd (idx a1.kids 1) fun a2=>bd3 (rec.impl_textReader_value (⟨(⟨x1.d.rules⟩:c_),x1.text,L⟩:Z_) a2) fun a3 a4 O=>bd (α:=Bool) (if (!a4)=true then some true else some (decide<|40<=(G.length:Int))) (fun a5=>if a5=true then some (.ret ((⟨0,([]:List UInt8),G⟩:Val),false,O)) else bd (psh G a3) fun H=>bd2 (a_H (⟨(⟨x1.d.rules⟩:c_),x1.text,O⟩:Z_) (⟨[93]⟩:Str)) fun a6 V=>if a6=true then some (.ret ((⟨0,([]:List UInt8),H⟩:Val),true,V)) else bd2 (a_H (⟨(⟨x1.d.rules⟩:c_),x1.text,V⟩:Z_) (⟨[44]⟩:Str)) fun a7 W=>if (!a7)=true then some (.ret ((⟨0,([]:List UInt8),H⟩:Val),false,W)) else some (.next (W,H)))) n (J,([]:List Val))) (el (un2 fun L G=>none)<|fun a8=>some a8)
def f_N (n:Nat)(rec:f_K)(x1:Z_)(x2:g_):Option (Val×Bool×Int) :=
 bd2 (a_H x1 (⟨[123]⟩:Str)) fun Y J=>if (!Y)=true then some ((⟨0,([]:List UInt8),([]:List Val)⟩:Val),false,J) else bd (z_ (σ:=Int×(List Val)) (ρ:=Val×Bool×Int) (fun I=>un2 fun H G=>bd (idx x2.names (I:Int)) fun L=>bd (α:=Bool×Int) (if (decide<|0<(I:Int))=true then bd2 (a_H (⟨(⟨x1.d.rules⟩:c_),x1.text,H⟩:Z_) (⟨[44]⟩:Str)) fun a0 O=>if (!a0)=true then some (true,O) else bd (cat L (⟨[58]⟩:Str)) fun a1=>bd2 (a_H (⟨(⟨x1.d.rules⟩:c_),x1.text,O⟩:Z_) a1) fun a2 a3=>some (!a2,a3) else bd (cat L (⟨[58]⟩:Str)) fun a4=>bd2 (a_H (⟨(⟨x1.d.rules⟩:c_),x1.text,H⟩:Z_) a4) fun a5 a6=>some (!a5,a6)) (un2 fun a7 V=>if a7=true then some (.ret ((⟨0,([]:List UInt8),G⟩:Val),false,V)) else bd (idx x2.kids (I:Int)) fun a8=>bd3 (rec.impl_textReader_value (⟨(⟨x1.d.rules⟩:c_),x1.text,V⟩:Z_) a8) fun a9 aa W=>if (!aa)=true then some (.ret ((⟨0,([]:List UInt8),G⟩:Val),false,W)) else bd (psh G a9) fun ab=>some<|.next (W,ab))) x2.names.length 0 (J,([]:List Val))) (el (un2 fun H G=>bd2 (a_H (⟨(⟨x1.d.rules⟩:c_),x1.text,H⟩:Z_) (⟨[125]⟩:Str)) fun ad ae=>some ((⟨0,([]:List UInt8),G⟩:Val),ad,ae))<|fun af=>some af)
def f_O (n:Nat)(rec:f_K)(x1:Z_)(x2:Val)(x3:Str)(x4:Int)(x5:Str):Option (Val×Bool×Int) :=
 bd (α:=Bool×Int) (if (decide<|x4<0)=true then some (true,x1.at_) else bd2 (a_H x1 x3) fun J L=>some (!J,L)) (un2 fun O G=>if O=true then some (x2,false,G) else bd3 (rec.impl_textReader_value (⟨(⟨x1.d.rules⟩:c_),x1.text,G⟩:Z_) x4) fun H V I=>bd (α:=Bool×Int×Int×(List UInt8)×(List Val)) (if V=true then bd2 (a_H (⟨(⟨x1.d.rules⟩:c_),x1.text,I⟩:Z_) x5) fun W Y=>some (W,Y,x2.number,x2.bytes,[H]) else some (false,I,x2.number,x2.bytes,[H]))<|un5 fun a0 a1 a2 a3 a4=>some ((⟨a2,a3,a4⟩:Val),a0,a1))
def a_K:Nat->f_K
 | 0=>⟨fun _ _=>none,fun _ _=>none,fun _ _=>none,fun _ _ _ _ _=>none⟩
 | n+1=>⟨f_L n<|a_K n,f_M n<|a_K n,f_N n<|a_K n,f_O n<|a_K n⟩
def l_a (n:Nat):=(a_K n).impl_textReader_value
def f_P (n:Nat)(x1:c_)(x2:Int)(x3:Str):Option (Val×Bool) :=
 bd (e_y n x1 x2) fun H=>if (!H)=true then some ((⟨0,([]:List UInt8),([]:List Val)⟩:Val),false) else bd3 (l_a n (⟨(⟨x1.rules⟩:c_),x3,0⟩:Z_) x2) fun G I O=>bd (α:=Bool) (if (!I)=true then some true else bd (e_I n x1 x2 G) fun J=>if (J.b != x3.b)=true then some true else some (x3.b==(⟨[]⟩:Str).b)) (fun L=>if L=true then some ((⟨0,([]:List UInt8),([]:List Val)⟩:Val),false) else some (G,true))
def f_Q (n:Nat)(x1:c_)(x2:List UInt8)(x3:List UInt8):Option Bool :=
 bd3 (d_Z n x1 x2) fun G V H=>bd3 (d_Z n x1 x3) fun I W J=>bd (α:=Bool) (if (H==0)=true then if (J==0)=true then bd (g_i n G I) fun L=>some L else some false else some false)<|fun O=>some O
def f_R (n:Nat)(x1:c_)(x2:List UInt8):Option Bool :=
 bd2 (e_O n x1 x2) fun G H=>bd (α:=Bool) (if H=true then bd (f_r x2 G) fun I=>some I else some false)<|fun J=>some J
def f_S (n:Nat)(x1:c_)(x2:List UInt8):Option Bool :=
 bd3 (d_Z n x1 x2) fun H a8 J=>if (J != 0)=true then some true else bd2 (e_O n x1 x2) fun I L=>bd (α:=Int×(List UInt8)×(List Val)×Bool) (bd (d_W x1) fun O=>bd (d_W x1) fun V=>bd (e_I n x1 V H) fun W=>bd2 (f_P n x1 O W) fun G Y=>some (G.number,G.bytes,G.items,Y)) (un4 fun a0 a1 a2 a3=>bd (α:=Bool) (if L=true then bd (f_Q n x1 x2 I) fun a4=>if a4=true then bd (f_R n x1 I) fun a5=>if a5=true then if a3=true then bd (g_i n H (⟨a0,a1,a2⟩:Val)) fun a6=>some a6 else some false else some false else some false else some false)<|fun a7=>some a7)
def f_T (n:Nat)(x1:c_)(x2:List UInt8):Option Bool :=
 if (decide<|1048576<(x2.length:Int))=true then some true else bd (g_Q x1 1048576) fun I=>if (decide<|I<0)=true then some true else bd (e_t x1) fun J=>bd (d_S x2) fun L=>bd (f_H n J L) fun O=>bd (e_t x1) fun G=>bd (d_S x2) fun H=>bd (f_S n G H) fun V=>if (V != O)=true then some false else bd (e_t x1) fun W=>bd (h_p G W) fun Y=>if (!Y)=true then some false else bd (d_S x2) fun a0=>bd (f_s H a0) fun a1=>if (!a1)=true then some false else some true
end Go.Vw
namespace Go.Vw
open Go.RowKit Dat
theorem n_O {P:Program}{o:Oper}{a:Act}{w:World}{K K' K1 K2:Act->World->Prop}{Q:Exit->Act->World->Prop}(h:∀a w,K a w->K' a w)(hh:o.wp P a w K (Exit.then K1 Q)):o.wp P a w K' (Exit.then K2 Q):=by
 unfold Oper.wp at *
 generalize (execOp a.eval o).run P w=r at *
 cases r with
 | ok n w' =>
  cases n <;> simp only [Oper.upon] at hh ⊢ <;>
   first
    | exact h _ _ hh
    | exact Calls.mono hh (fun e w'' he=>by cases e <;> first | exact h _ _ he | exact he)
    | exact Rows.mono hh<|fun _ _ he=>h _ _ he
 | halt x w'=>cases x <;> simp only [Oper.upon] at hh ⊢ <;> exact hh
theorem j_x {P:Program}{ops:Array Oper}{K K1:Act->World->Prop}{Q:Exit->Act->World->Prop}{G:List Oper}(hk:∀a w,K1 a w->wpList P ops (Exit.then K Q) G a w):∀(l1:List Oper)(a:Act)(w:World),wpList P ops (Exit.then K1 Q) l1 a w->wpList P ops (Exit.then K Q) (l1++G) a w
 | [],a,w,h=>hk a w h
 | o::l1,a,w,h=>by
  rw [List.cons_append]
  unfold wpList at h ⊢
  split at h
  ·rename_i hw
   rw [if_pos hw]
   rcases h with h | ⟨h1,h2⟩
   ·exact .inl<|n_O (j_x hk l1) h
   ·exact .inr ⟨h1,h2⟩
  ·rename_i hw
   rw [if_neg hw]
   exact j_x hk l1 _ _ h
section
variable {P:Program}{N:Nat}{ops:Array Oper}{K:Act->World->Prop}{Q:Exit->Act->World->Prop}{e:Env}{w:World}{l:List Oper}
theorem n_P (k:Nat)(l:List Oper):l.take k++l.drop k=l:=List.take_append_drop k l
theorem c_T (d:Nat)(u:Bool)(k:Nat)(h1:WL P N ops (fun a w'=>w'=w/\Sat N ((d,vB u)::e) a) Q (l.take k) e w)(h2:WL P N ops K Q (l.drop k) ((d,vB u)::e) w):WL P N ops K Q l e w:=fun a ha=>by
 rw [← n_P k l]
 exact j_x (fun a w' ⟨hw,hs⟩=>by subst hw;exact h2 a hs) _ a w<|h1 a ha
variable {d:Nat}{u c:Bool}
def j_y (n:Nat)(e:Env):Bool:=(e.take n).all fun p=>(e.drop n).all fun q=>!Nat.beq p.1 q.1
theorem l_j:∀{e:Env}{t:Nat},(∀q∈e,Nat.beq t q.1=false)->x_ e t=none
 | [],_,_=>rfl
 | (k,v)::e,t,h=>by
  have h1:=h (k,v) List.mem_cons_self;have h2:Nat.beq k t=false:=by rw [← Bool.not_eq_true,Nat.beq_eq] at *;exact fun h=>h1 h.symm
  rw [x_,h2]
  exact l_j fun q hq=>h q<|List.mem_cons_of_mem _ hq
theorem l_k:∀{G H:Env}{t:Nat},(∀p∈G,Nat.beq p.1 t=false)->x_ (G++H) t=x_ H t
 | [],_,_,_=>rfl
 | (k,v)::G,H,t,h=>by
  rw [List.cons_append,x_,h (k,v) List.mem_cons_self]
  exact l_k fun p hp=>h p<|List.mem_cons_of_mem _ hp
theorem n_Q {n:Nat}{e:Env}(h:j_y n e=true){t:Nat}{v:Value}(hl:x_ (e.drop n) t=some v):x_ e t=some v:=by
 have:x_ (e.take n++e.drop n) t=x_ (e.drop n) t:=by
  refine l_k fun p hp=>?_
  cases hb:Nat.beq p.1 t with
  | false=>rfl
  | true =>
   exfalso
   have hpt:p.1=t:=Nat.eq_of_beq_eq_true hb;have h1:=List.all_eq_true.1 h p hp
   rw [List.all_eq_true] at h1
   have:=l_j (e:=e.drop n) (t:=t) fun q hq=>by
    have:=h1 q hq
    rw [Bool.not_eq_true'] at this
    rw [← hpt];exact this
   rw [this] at hl;cases hl
 rw [List.take_append_drop] at this
 rw [this];exact hl
theorem n_R (n:Nat){e':Env}{a:Act}(hu:c=u)(G:x_ e' d=some (vB c))(hf:j_y n e'=true)(he:e'.drop n=e)(ha:Sat N e' a):Sat N ((d,vB u)::e) a:=by
 subst hu;subst he;refine ⟨ha.defers,ha.size,fun t v ht=>?_⟩
 simp only [x_] at ht
 by_cases hk:d=t
 ·subst hk;have hb:Nat.beq d d=true:=by simp
  rw [hb] at ht
  simp only [cond_true,Option.some.injEq] at ht
  subst ht;exact ha.at_ d _ G
 ·have hb:Nat.beq d t=false:=by rw [← Bool.not_eq_true,Nat.beq_eq];exact hk
  rw [hb] at ht
  simp only [cond_false] at ht
  exact ha.at_ t v<|n_Q hf ht
theorem WLq (n:Nat){e':Env}(hu:some c=some u)(G:x_ e' d=some (vB c))(hf:j_y n e'=true)(he:e'.drop n=e):WL P N ops (fun a w'=>w'=w/\Sat N ((d,vB u)::e) a) Q [] e' w :=
 e_R fun _ ha=>⟨rfl,n_R n (Option.some.inj hu) G hf he ha⟩
end
end Go.Vw
universe u
namespace Go.Vw
open Go.RowKit Dat
section
variable {P:Program}{N:Nat}{ops:Array Oper}{K:Act->World->Prop}{Q:Exit->Act->World->Prop}{e:Env}{w:World}{rest:List Oper}
variable {d:Nat}{op:Op}{ty:TypeId}{pos:String}{aft:Array Edge}{x:Operand}
theorem Wn {y:Code}{Q':Exit->Act->World->Prop}(h:WC P N y K Q e w):WL P N ops (KC P y K Q) Q' [] e w:=e_R<|WC.of_KC h
theorem Ws {id:Nat}{l:List Oper}{y:Code}(h:WL P N l.toArray (KC P y K Q) Q l e w):WC P N (.seq (.region id l.toArray false) y) K Q e w:=f_U<|f_W h
theorem Wk {y:Code}{Q':Exit->Act->World->Prop}(h:WC P N y K Q e w):WC P N .skip (KC P y K Q) Q' e w:=a_I<|WC.of_KC h
theorem d_c {b:Bool}{o:Option Value}{v:Value}(h:(bif b then o else none)=some v):b=true/\o=some v:=by
 cases b
 ·cases h
 ·exact ⟨rfl,h⟩
theorem Rm {v:Value}(h:(bif Nat.blt d N then ev e x else none)=some v)(k:WL P N ops K Q rest ((d,v)::e) w):WL P N ops K Q (⟨some d,.move x,ty,pos,aft,none⟩::rest) e w:=R (d_c h).1 (f_1 (d_c h).2) k
theorem Ra {v:Value}(h:(bif Nat.blt d N then ev e x else none)=some v)(k:WL P N ops K Q rest ((d,v)::e) w):WL P N ops K Q (⟨some d,.assign x,ty,pos,aft,none⟩::rest) e w:=R (d_c h).1 (f_2 (d_c h).2) k
section
variable {j:Nat}{want b:Bool}
theorem bind_some {o:Option Nat}{v:Value}(h:o.bind (x_ e)=some v):∃gd,o=some gd/\x_ e gd=some v:=by
 cases o with
 | none=>cases h
 | some g=>exact ⟨g,rfl,h⟩
theorem Rh {v:Value}(h:(bif Nat.blt d N then ((ops[j]?).bind (·.dst)).bind (x_ e) else none)=some (.bool b))(hw:b=want)(hr:Rd noX P N ⟨some d,op,ty,pos,aft,some (j,want)⟩ e w v)(k:WL P N ops K Q rest ((d,v)::e) w):WL P N ops K Q (⟨some d,op,ty,pos,aft,some (j,want)⟩::rest) e w:=by
 obtain ⟨gd,h1,h2⟩:=bind_some (d_c h).2;exact Rg h1 h2 hw (d_c h).1 hr k
theorem Nh (h:(bif Nat.blt d N then ((ops[j]?).bind (·.dst)).bind (x_ e) else none)=some (.bool b))(hw:b = !want)(k:WL P N ops K Q rest ((d,undef)::e) w):WL P N ops K Q (⟨some d,op,ty,pos,aft,some (j,want)⟩::rest) e w:=by
 obtain ⟨gd,h1,h2⟩:=bind_some (d_c h).2;exact Ng h1 h2 hw (d_c h).1 k
theorem Nv (h:(bif Nat.blt d N then ((ops[j]?).bind (·.dst)).bind (x_ e) else none)=some undef)(k:WL P N ops K Q rest ((d,undef)::e) w):WL P N ops K Q (⟨some d,op,ty,pos,aft,some (j,want)⟩::rest) e w:=by
 obtain ⟨gd,h1,h2⟩:=bind_some (d_c h).2;exact Nu h1 h2 (d_c h).1 k
end
end
theorem goF {P:Program}{f:FuncId}{G:Func}{c:Code}{N:Nat}{args:List Value}{w:World}{R:Value->World->Prop}(hf:P.funcs[f]? = some G)(hb:G.body=some c)(hN:G.ntmps=N)(hle:args.length<=N)(h:∀fn:Func,fn.results=G.results->WC P N c (c_B P fn R) (QR P fn R) (e_j 0 args) w):l_ P f args w R:=o_K hf hb hN hle<|h G rfl
theorem goG {P:Program}{f:FuncId}{G:Func}{c:Code}{N:Nat}{args:List Value}{w:World}{R:Value->World->Prop}(hf:P.funcs[f]? = some G)(hb:G.body=some c)(hN:G.ntmps=N)(hle:Nat.ble args.length N=true)(h:∀fn:Func,fn.results=G.results->WC P N c (c_B P fn R) (QR P fn R) (e_j 0 args) w):l_ P f args w R:=goF hf hb hN (Nat.le_of_ble_eq_true hle) h
section
variable {P:Program}{N:Nat}{e:Env}{w:World}{ty:TypeId}{pos:String}{aft:Array Edge}{gd:Option (Nat×Bool)}{x y:Operand}
theorem fs0 {T n g o:Nat}{v:Value}{cur cur':List Value}(hs:∀w,(sizeOf T).run P w = .ok n w)(hp:ev e x=some (.pointer<|some ⟨g,o,none⟩))(hv:ev e y=some v)(hB:Blk w g cur)(hn:v.cells.size=n)
  (ho:Nat.ble (o+n) cur.length=true) (h1:v.cells.toList.all Value.oneCell'=true) (hcur:cur.take o++v.cells.toList++cur.drop (o+v.cells.toList.length)=cur') :
  Ef P N ⟨none,.store T x y,ty,pos,aft,gd⟩ e w (fun _ w'=>Blk w' g cur'/\Chg (· = g) w w'):=e_S hs hp hv hB hn (Nat.le_of_ble_eq_true ho) (g_6 h1) hcur
end
abbrev rQ {ρ:Type}(P:Program)(fn:Func)(Q:ρ->Value->World->Prop)(r:ρ)(ex:Exit)(a:Act)(w:World):Prop:=ex = .ret/\c_B P fn (Q r) a w
abbrev _root_.Go.World.z (w:World):Nat:=w.heap.size
abbrev sl (a:Option Addr)(n c:Nat):Value:=.slice a n c
abbrev pt (g:Nat):Value:=.pointer<|some ⟨g,0,none⟩
abbrev Bw (a b:World):Prop:=Below a.heap.size a b
abbrev vR (x:g_)(G:Option Addr)(H I:Nat)(a2:Option Addr)(J L:Nat)(O:Option Addr)(V W:Nat)(Y:Option Addr)(n4 c4:Nat):List Value:=[x.name.v,vI x.kind,vI x.size,vB x.little,.slice G H I,.slice a2 J L,.slice O V W,.slice Y n4 c4]
theorem z {α:Sort u}{a:α}:a=a:=rfl
theorem Sat.k {N:Nat}{e e':Env}{a:Act}(h:Sat N e a)(hs:sub e e'):Sat N e' a:=h.weaken hs
theorem fid {a:Prop}(h:a):a:=h
theorem lt_ {a b c:Nat}(h:a<=b)(h':b<=c):a<=c:=Nat.le_trans h h'
theorem lr {a:Nat}:a<=a:=Nat.le_refl a
theorem lb {a b:Nat}(h:Nat.ble a b=true):a<=b:=Nat.le_of_ble_eq_true h
theorem ii {x:Int}(h:(decide (-9223372036854775808<=x) && decide (x<=9223372036854775807))=true):inI x:=inI_of x h
section
variable {S T A M:List Nat}{m n g k:Nat}
theorem j_1 (h:m<=n):∀k∈[n],m<=k:=d_ h
theorem mno (h:∀ k∈T,k<m)(h':m<=n):∀k∈[n],k∉T:=d_<|fun ht=>absurd (h n ht)<|Nat.not_lt.2 h'
theorem mnr (h:∀ k∈T,k<m):∀k∈[m],k∉T:=mno h lr
theorem mm1 (h:g<m)(h':m<=n):∀k∈[n],k∉[g]:=mno (d_ h) h'
theorem mmr (h:g<m):∀k∈[m],k∉[g]:=mno (d_ h) lr
theorem mor (h:m<=n):∀k∈[n],k∈M∨m<=k:=d_<|.inr h
theorem j_ (hs:∀k∈S,n<=k)(h:m<=n):∀k∈S,m<=k:=or0 hs<|b_9 h
theorem h_ (hs:∀k∈S,n<=k)(h:g<m)(h':m<=n):∀k∈S,k∉[g]:=or0 hs<|S_ (d_ h) h'
theorem a_Y (hs:∀k∈S,n<=k)(h:∀ k∈T,k<m)(h':m<=n):∀k∈S,k∉T:=or0 hs<|S_ h h'
theorem a_l (hs:∀k∈S,k∈A∨n<=k)(ha:∀k∈A,m<=k)(h:m<=n):∀k∈S,m<=k:=or1 hs ha<|b_9 h
theorem o1no (hs:∀k∈S,k∈A∨n<=k)(ha:∀k∈A,k∉T)(h:∀ k∈T,k<m)(h':m<=n):∀k∈S,k∉T:=or1 hs ha<|S_ h h'
theorem djs (h:∀k∈S,k∉[g]):g∉S:=fun hg=>h g hg<|List.mem_singleton.2 rfl
theorem atp {p:Nat->Prop}(h:∀k∈[g],p k):p g:=h g<|List.mem_singleton.2 rfl
theorem nd0:([]++[]:List Nat).Nodup:=g_8 K_ K_ all_nil
theorem al0 {p:Nat->Prop}:∀k∈([]++[]:List Nat),p k:=g_7 all_nil all_nil
end
section
variable {e e':Env}{v1 v2 v3 v4 v5 v6 v7 v8 v9:Value}{k1 k2 k3 k4 k5 k6 k7 k8 k9:Nat}
theorem s1 (h1:x_ e k1=some v1):sub e [(k1,v1)]:=⟨h1,trivial⟩
theorem s2 (h1:x_ e k1=some v1)(h2:x_ e k2=some v2):sub e [(k1,v1),(k2,v2)]:=⟨h1,s1 h2⟩
theorem s3 (h1:x_ e k1=some v1)(h2:x_ e k2=some v2)(h3:x_ e k3=some v3):sub e [(k1,v1),(k2,v2),(k3,v3)]:=⟨h1,s2 h2 h3⟩
theorem s4 (h1:x_ e k1=some v1)(h2:x_ e k2=some v2)(h3:x_ e k3=some v3)(h4:x_ e k4=some v4):sub e [(k1,v1),(k2,v2),(k3,v3),(k4,v4)]:=⟨h1,s3 h2 h3 h4⟩
theorem s5 (h1:x_ e k1=some v1)(h2:x_ e k2=some v2)(h3:x_ e k3=some v3)(h4:x_ e k4=some v4)(h5:x_ e k5=some v5):sub e [(k1,v1),(k2,v2),(k3,v3),(k4,v4),(k5,v5)]:=⟨h1,s4 h2 h3 h4 h5⟩
theorem s6 (h1:x_ e k1=some v1)(h2:x_ e k2=some v2)(h3:x_ e k3=some v3)(h4:x_ e k4=some v4)(h5:x_ e k5=some v5)(h6:x_ e k6=some v6):sub e [(k1,v1),(k2,v2),(k3,v3),(k4,v4),(k5,v5),(k6,v6)]:=⟨h1,s5 h2 h3 h4 h5 h6⟩
theorem s7 (h1:x_ e k1=some v1)(h2:x_ e k2=some v2)(h3:x_ e k3=some v3)(h4:x_ e k4=some v4)(h5:x_ e k5=some v5)(h6:x_ e k6=some v6)(G:x_ e k7=some v7):sub e [(k1,v1),(k2,v2),(k3,v3),(k4,v4),(k5,v5),(k6,v6),(k7,v7)]:=⟨h1,s6 h2 h3 h4 h5 h6 G⟩
theorem s8 (h1:x_ e k1=some v1)(h2:x_ e k2=some v2)(h3:x_ e k3=some v3)(h4:x_ e k4=some v4)(h5:x_ e k5=some v5)(h6:x_ e k6=some v6)(G:x_ e k7=some v7)(H:x_ e k8=some v8):sub e [(k1,v1),(k2,v2),(k3,v3),(k4,v4),(k5,v5),(k6,v6),(k7,v7),(k8,v8)]:=⟨h1,s7 h2 h3 h4 h5 h6 G H⟩
theorem s9 (h1:x_ e k1=some v1)(h2:x_ e k2=some v2)(h3:x_ e k3=some v3)(h4:x_ e k4=some v4)(h5:x_ e k5=some v5)(h6:x_ e k6=some v6)(G:x_ e k7=some v7)(H:x_ e k8=some v8)(I:x_ e k9=some v9):sub e [(k1,v1),(k2,v2),(k3,v3),(k4,v4),(k5,v5),(k6,v6),(k7,v7),(k8,v8),(k9,v9)]:=⟨h1,s8 h2 h3 h4 h5 h6 G H I⟩
end
theorem onL {α:Type}[Dat α]{w:World}:a_ w [] (.slice none 0 0) ([]:List α):=l_x w
theorem _root_.Go.RowKit.Below.s {b:Nat}{w w':World}(h:Below b w w'):w.heap.size<=w'.heap.size:=h.size
theorem Chg.s {X:Nat->Prop}{w w':World}(h:Chg X w w'):w.heap.size<=w'.heap.size:=h.size
abbrev Chg.e:=@Chg.ext
abbrev repS.e:=@repS.ext
abbrev repS.c:=@repS.chg
abbrev a_.e:=@a_.ext
abbrev a_.c:=@a_.chg
abbrev L_.e:=@L_.ext
abbrev L_.c:=@L_.chg
abbrev a_x.e:=@a_x.ext
abbrev a_x.c:=@a_x.chg
abbrev b_m.e:=@b_m.ext
abbrev b_m.c:=@b_m.chg
abbrev GlW.e:=@GlW.ext
abbrev GlW.c:=@GlW.chg
abbrev b_T.e:=@b_T.ext
abbrev b_T.c:=@b_T.chg
abbrev Blk.e:=@Blk.ext
abbrev Blk.c:=@Blk.chg
abbrev b_D.e:=@b_D.ext
abbrev b_D.c:=@b_D.chg
section
variable {P:Program}{N:Nat}{ops:Array Oper}{K:Act->World->Prop}{Q:Exit->Act->World->Prop}{e:Env}{w:World}{rest:List Oper}{X:Nat->Prop}{T:Nat}{p:a_r}
variable {d d':Nat}{ty ty':TypeId}{pos pos':String}{aft aft':Array Edge}{x x':Operand}{v v':Value}
theorem Rw {c:Code}{Q':Exit->Act->World->Prop}(h:(bif Nat.blt d N then ev e x else none)=some v)(k:WC P N c K Q ((d,v)::e) w):WL P N ops (KC P c K Q) Q' [⟨some d,.assign x,ty,pos,aft,none⟩] e w:=Ra h<|Wn k
theorem Wm {id:Nat}{l:List Oper}{c:Code}(h:(bif Nat.blt d N then ev e x else none)=some v)(k:WL P N (⟨some d,.move x,ty,pos,aft,none⟩::l).toArray (KC P c K Q) Q l ((d,v)::e) w):WC P N (.seq (.region id (⟨some d,.move x,ty,pos,aft,none⟩::l).toArray false) c) K Q e w:=Ws<|Rm h k
theorem RM (h:(bif Nat.blt d N then ev e x else none)=some v)(h':(bif Nat.blt d' N then ev ((d,v)::e) x' else none)=some v')(k:WL P N ops K Q rest ((d',v')::(d,v)::e) w):WL P N ops K Q (⟨some d,.move x,ty,pos,aft,none⟩::⟨some d',.move x',ty',pos',aft',none⟩::rest) e w:=Rm h<|Rm h' k
theorem RA (h:(bif Nat.blt d N then ev e x else none)=some v)(h':(bif Nat.blt d' N then ev ((d,v)::e) x' else none)=some v')(k:WL P N ops K Q rest ((d',v')::(d,v)::e) w):WL P N ops K Q (⟨some d,.assign x,ty,pos,aft,none⟩::⟨some d',.assign x',ty',pos',aft',none⟩::rest) e w:=Ra h<|Ra h' k
theorem dM {i:Nat}(ho:ops[i]? = some ⟨some d,.move x,ty,pos,aft,none⟩)(hf:Nat.blt d N=true)(h:ev e x=some v)(k:PR X P N ops T K p ((d,v)::e) w):PR X P N ops T K (.rd i p) e w:=dR ho hf (f_1 h) k
theorem dQ {i:Nat}(ho:ops[i]? = some ⟨some d,.assign x,ty,pos,aft,none⟩)(hf:Nat.blt d N=true)(h:ev e x=some v)(k:PR X P N ops T K p ((d,v)::e) w):PR X P N ops T K (.rd i p) e w:=dR ho hf (f_2 h) k
theorem Wx {y y':Code}{b:Bool}{Q':Exit->Act->World->Prop}(hc:ev e x=some (.bool b))(ht:b=true->WC P N y K Q e w)(hf:b=false->WC P N y' K Q e w):WL P N ops (KC P (.cond x y y') K Q) Q' [] e w:=Wn<|f_V hc ht hf
section
variable {t u i:Nat}{k:IntKind}{a b:Int}
theorem Rl (hf:Nat.blt d N=true)(h1:ev e x=some (.int k a))(h2:ev e x'=some (.int k b))(h:WL P N ops K Q rest ((d,vB<|decide<|a<b)::e) w):WL P N ops K Q (⟨some d,.binOp .lss t x x' u,ty,pos,aft,none⟩::rest) e w:=R hf (g_p h1 h2) h
theorem Rq (hf:Nat.blt d N=true)(h1:ev e x=some (.int k a))(h2:ev e x'=some (.int k b))(h:WL P N ops K Q rest ((d,vB<|a==b)::e) w):WL P N ops K Q (⟨some d,.binOp .eql t x x' u,ty,pos,aft,none⟩::rest) e w:=R hf (g_o h1 h2) h
theorem Rf {g o j:Nat}(hf:Nat.blt d N=true)(h1:Fld P t i j)(h2:ev e x=some (.pointer<|some ⟨g,o,none⟩))(h:WL P N ops K Q rest ((d,.pointer<|some ⟨g,o+j,none⟩)::e) w):WL P N ops K Q (⟨some d,.fieldAddr t x i,ty,pos,aft,none⟩::rest) e w:=R hf (g_j h1 h2) h
theorem Re {vs:Array Value}(hf:Nat.blt d N=true)(h1:ev e x=some (.tuple vs))(h2:vs[i]? = some v)(h:WL P N ops K Q rest ((d,v)::e) w):WL P N ops K Q (⟨some d,.extract x i,ty,pos,aft,none⟩::rest) e w:=R hf (g_l h1 h2) h
end
theorem l0 {t g o:Nat}{dst:Option Tmp}{gd:Option (Nat×Bool)}(hT:∀w,(isAgg t).run P w = .ok false w)(h:ev e x=some (.pointer<|some ⟨g,o,none⟩))(hc:w.cell? ⟨g,o,none⟩=some v):Rd noX P N ⟨dst,.load t x,ty,pos,aft,gd⟩ e w v:=g_k hT h (fun h=>h) hc
def plA:Nat->Nat->List Nat->a_r
 | _,0,_=>.done
 | i,n+1,l=>bif l.elem i then .ef i (plA (i+1) n l) else .rd i (plA (i+1) n l)
abbrev pl_ (n:Nat)(l:List Nat):a_r:=plA 0 n l
end
end Go.Vw
namespace Go.Vw
open Go.RowKit Dat Go.ChangeShapes Go.WideShapes Go.ChangeAt
structure IsT (P:Program)(t:TypeId)(α:Type)[Dat α](L:α->Prop):Prop where
 rd:∀{H:Type}(enc:TypeId×Value->H)(W:World)(fuel:Nat)(cs:List Value)(x:DataW H×List MemPlace),DataW.trod enc P W 0 (fun _=>true) true fuel t cs=some x->(x.1.weights P t).all (· <= reachBytes)=true->∃v:α,rep W W.heap.size cs v/\L v
section
variable {P:Program}{t:TypeId}
theorem o_C (ht:P.underlying t=some (.int .i64)):IsT P t Int (fun _=>True):=⟨fun enc W fuel cs x h _=>by
 obtain ⟨n,rfl,_,hw⟩:=DataW.trod_int ht h;have:=bounds_i64 hw
 exact ⟨n,⟨_,rfl,rfl,by unfold inI;omega⟩,trivial⟩⟩
theorem o_D (ht:P.underlying t=some (.int .u8)):IsT P t UInt8 (fun _=>True):=⟨fun enc W fuel cs x h _=>by
 obtain ⟨n,rfl,_,hw⟩:=DataW.trod_int ht h;have hb:=bounds_u8 hw
 have e:n=byteI (UInt8.ofNat n.toNat):=by
  unfold byteI
  rw [UInt8.toNat_ofNat']
  omega
 refine ⟨UInt8.ofNat n.toNat,⟨_,rfl,?_⟩,trivial⟩
 show Value.int .u8 n=vU (byteI<|UInt8.ofNat n.toNat)
 rw [← e]⟩
theorem o_E (ht:P.underlying t=some .bool):IsT P t Bool (fun _=>True):=⟨fun enc W fuel cs x h _=>by
 obtain ⟨b,rfl,_⟩:=DataW.trod_bool ht h
 exact ⟨b,⟨_,rfl,rfl⟩,trivial⟩⟩
theorem o_F (ht:P.underlying t=some .string):IsT P t Str (fun s=>s.b.length<=LEN):=⟨fun enc W fuel cs x h hw=>by
 obtain ⟨s,rfl,rfl,_⟩:=DataW.trod_string ht h
 simp only [DataW.weights,List.all_cons,List.all_nil,Bool.and_true,decide_eq_true_eq] at hw
 have hr:reachBytes=140737488351232:=rfl;have hL:LEN=140737488355328:=rfl;have hl:s.data.toList.length<=LEN:=by omega
 exact ⟨⟨s.data.toList⟩,⟨_,rfl,by simp [Str.v],hl⟩,hl⟩⟩
theorem l_F {H:Type}{e:TypeId}:∀{l:List (DataW H)}{d:DataW H},(DataW.weightsAll P e l).all (· <= reachBytes)=true->d∈l->(d.weights P e).all (· <= reachBytes)=true
 | [],_,_,h=>by cases h
 | y::l,d,hw,h=>by
  unfold DataW.weightsAll at hw
  rw [List.all_append,Bool.and_eq_true] at hw
  rcases List.mem_cons.1 h with rfl | h
  ·exact hw.1
  ·exact l_F hw.2 h
theorem i_m {H:Type}:∀{ts:List TypeId}{l:List (DataW H)}{i:Nat}{t:TypeId}{d:DataW H},(DataW.weightsEach P ts l).all (· <= reachBytes)=true->ts[i]? = some t->l[i]? = some d->(d.weights P t).all (· <= reachBytes)=true
 | [],_,_,_,_,_,h,_=>by simp at h
 | _::_,[],_,_,_,_,_,h=>by simp at h
 | t::ts,y::l,i,t',d,hw,h1,h2=>by
  unfold DataW.weightsEach at hw
  rw [List.all_append,Bool.and_eq_true] at hw
  cases i with
  | zero=>simp at h1 h2;subst h1 h2;exact hw.1
  | succ i=>simp at h1 h2;exact i_m hw.2 h1 h2
theorem cells?_spec {w:World}{a:Addr}{n:Nat}{cs:List Value}(h:w.cells? 0 a n=some cs):cs.length=n/\∀j v,cs[j]? = some v->w.cell? (a.add j)=some v:=by
 unfold World.cells? at h
 rw [if_pos (Nat.zero_le _)] at h
 refine ⟨by simpa using mapM_some_length h,fun j v hv=>?_⟩
 have hj:j<n:=by
  have h1:=(List.getElem?_eq_some_iff.1 hv).1;have h2:=mapM_some_length h
  simp at h2
  omega
 have:=mapM_some_get h j j (by rw [List.getElem?_range hj])
 rw [this];exact hv
theorem o_G {w:World}{a:Addr}{v:Value}(h:w.cell? a=some v):a.spot=none:=by
 unfold World.cell? at h
 split at h
 ·cases hs:a.spot with
  | none=>rfl
  | some x=>rw [hs] at h;simp at h
 ·cases h
theorem j_E {α:Type}(Q:Nat->α->Prop):∀(len:Nat),(∀i,i<len->∃v,Q i v)->∃l:List α,l.length=len/\∀(i:Nat)(x:α),l[i]? = some x->Q i x
 | 0,_=>⟨[],rfl,fun i x h=>by simp at h⟩
 | n+1,h=>by
  obtain ⟨l,hl,hq⟩:=j_E Q n<|fun i hi=>h i (by omega);obtain ⟨v,hv⟩:=h n (by omega);refine ⟨l++[v],by simp [hl],fun i x hx=>?_⟩
  by_cases hi:i<l.length
  ·rw [List.getElem?_append_left hi] at hx;exact hq i x hx
  ·rw [List.getElem?_append_right (by omega)] at hx
   have h1:=(List.getElem?_eq_some_iff.1 hx).1
   simp only [List.length_cons,List.length_nil] at h1
   have h2:i=n:=by omega
   subst h2
   rw [show i - l.length=0 by omega] at hx
   simp at hx
   exact hx ▸ hv
theorem i_n {α:Type}[Dat α]{L:α->Prop}{e:TypeId}(ht:P.underlying t=some (.slice e))(he:IsT P e α L)(hc:P.cellsOf e=sz α)(hb:1<=P.bytesOf e):IsT P t (List α) (fun l=>l.length<=LEN/\∀x∈l,L x):=⟨fun enc W fuel cs x h hw=>by
 have hr:reachBytes=140737488351232:=rfl;have hL:LEN=140737488355328:=rfl
 rcases DataW.trod_slice ht h with ⟨rfl,rfl⟩ | ⟨a,len,cap,elems,rest,n,_,rfl,rfl,_,hlc,_,hlen,hel,hsp,_⟩
 ·exact ⟨[],⟨_,rfl,none,0,rfl,Nat.le_refl _,Nat.zero_le _,fun _=>rfl,fun p hp=>by cases hp⟩,by simp,fun x hx=>by cases hx⟩
 ·obtain ⟨hrl,_⟩:=hsp rfl
  have hw':(elems.length+rest.length) * P.bytesOf e<=reachBytes/\(DataW.weightsAll P e<|elems.map (·.1)).all (· <= reachBytes)=true:=by
   unfold DataW.weights at hw
   rw [ht] at hw
   simp only [List.all_cons,List.all_append,Bool.and_eq_true,decide_eq_true_eq,List.length_map] at hw
   exact ⟨hw.1,hw.2.1⟩
  have hcap:cap<=LEN:=by
   have h1:elems.length+rest.length<=(elems.length+rest.length) * P.bytesOf e:=Nat.le_mul_of_pos_right _ hb
   omega
  have hone:∀i:Nat,i<len->∃v:α,a.spot=none/\a.block<W.heap.size/\(∃cs,L_ W a.block (a.off+i * sz α) cs/\rep W W.heap.size cs v)/\L v:=by
   intro i hi;have h1:=hel i hi;have hie:i<elems.length:=by omega
   rw [List.getElem?_eq_getElem hie] at h1
   cases hcs:W.cells? 0 (a.add<|i * P.cellsOf e) (P.cellsOf e) with
   | none=>rw [hcs] at h1;cases h1
   | some cs =>
    rw [hcs] at h1
    simp only [Option.bind_some] at h1
    obtain ⟨v,hv,hl⟩:=he.rd enc W n cs _ h1<|l_F hw'.2<|List.mem_map_of_mem<|List.getElem_mem hie;obtain ⟨J,O⟩:=cells?_spec hcs;have hpos:0<cs.length:=by rw [J,hc];exact Dat.pos
    have hsp:a.spot=none:=by
     have G:=hel 0 (by omega)
     rw [List.getElem?_eq_getElem (show 0<elems.length by omega)] at G
     cases H:W.cells? 0 (a.add<|0 * P.cellsOf e) (P.cellsOf e) with
     | none=>rw [H] at G;cases G
     | some I =>
      obtain ⟨V,Y⟩:=cells?_spec H;have hpos0:0<I.length:=by rw [V,hc];exact Dat.pos
      have:=Y 0 I[0] (by rw [List.getElem?_eq_getElem hpos0]);have:=o_G this
      simpa [Addr.add] using this
    have ha:a=⟨a.block,a.off,none⟩:=by cases a;simp only at hsp;rw [hsp]
    have hcells:L_ W a.block (a.off+i * sz α) cs:=by
     intro j u hu;have:=O j u hu
     rw [ha,Addr.add_lit,Addr.add_lit,hc] at this
     exact this
    exact ⟨v,hsp,hcells.lt (by intro h;rw [h] at hpos;cases hpos),⟨cs,hcells,hv⟩,hl⟩
  obtain ⟨l,hll,hq⟩:=j_E _ len hone;refine ⟨l,⟨_,rfl,some a,cap,by rw [hll],by omega,by omega,fun h=>(by cases h),fun p hp=>?_⟩,by omega,fun x hx=>?_⟩
  ·obtain rfl:=Option.some.inj hp;refine ⟨fun hne=>?_,fun hne=>?_,fun i x hx=>(hq i x hx).2.2.1⟩
   ·cases l with
    | nil=>exact absurd rfl hne
    | cons y l=>exact (hq 0 y rfl).1
   ·cases l with
    | nil=>exact absurd rfl hne
    | cons y l=>exact (hq 0 y rfl).2.1
  ·obtain ⟨i,hi⟩:=List.getElem?_of_mem hx
   exact (hq i x hi).2.2.2⟩
def cutC:Nat->List Nat->List Value->List (List Value)
 | _,[],_=>[]
 | o,n::r,cs=>(cs.drop o).take n::cutC (o+n) r cs
def j_F:List (List Value)->List Value
 | []=>[]
 | [p]=>p
 | p::q::r=>p++j_F (q::r)
theorem j_G:∀(ns:List Nat)(o:Nat)(cs:List Value),ns ≠ []->cs.length=o+ns.sum->j_F (cutC o ns cs)=cs.drop o
 | [],_,_,h,_=>absurd rfl h
 | [n],o,cs,_,h=>by
  show (cs.drop o).take n=_
  rw [List.take_of_length_le]
  simp at h ⊢;omega
 | n::m::r,o,cs,_,h=>by
  show (cs.drop o).take n++j_F (cutC (o+n) (m::r) cs)=_
  rw [j_G (m::r) (o+n) cs (by simp) (by simp at h ⊢;omega),← List.drop_drop,List.take_append_drop]
theorem l_G {H:Type}{enc:TypeId×Value->H}{W:World}{fuel:Nat}{cs:List Value}{x:DataW H×List MemPlace}{fs:Array Field}(ht:P.underlying t=some (.struct fs))(h:DataW.trod enc P W 0 (fun _=>true) true fuel t cs=some x)(hw:(x.1.weights P t).all (· <= reachBytes)=true) :
  cs.length=P.cellsOf t/\∀(i:Nat)(f:Field),fs[i]? = some f->∀(α:Type)(_:Dat α)(L:α->Prop),IsT P f.type α L->∃v:α,rep W W.heap.size ((cs.drop f.offset).take (P.cellsOf f.type)) v/\L v:=by
 obtain ⟨xs,n,rfl,rfl,hl,hxl,hf⟩:=DataW.trod_struct ht h;refine ⟨hl,fun i f hi α _ L hα=>?_⟩;have h1:=hf i f hi;have hlt:=(Array.getElem?_eq_some_iff.1 hi).1
 rw [List.getElem?_eq_getElem (by omega)] at h1
 refine hα.rd enc W n _ _ h1 ?_;unfold DataW.weights at hw
 rw [ht] at hw
 refine i_m (i:=i) hw ?_ (by rw [List.getElem?_map,List.getElem?_eq_getElem (by omega)];rfl)
 rw [List.getElem?_map,Array.getElem?_toList,hi];rfl
structure OkW (P:Program)(W:World)(base:Nat)(t:TypeId)(v:Value):Prop where
 h:Value.okWide P W .any base t v
structure OkWs (P:Program)(W:World)(base:Nat)(ts:Array TypeId)(vs:Array Value):Prop where
 h:∀(j:Nat) t v,ts[j]? = some t->vs[j]? = some v->Value.okWide P W .any base t v
theorem OkWs.at {W:World}{base:Nat}{ts:Array TypeId}{vs:Array Value}(h:OkWs P W base ts vs)(j:Nat)(t:TypeId)(v:Value)(h1:ts[j]? = some t)(h2:vs[j]? = some v):OkW P W base t v:=⟨h.h j t v h1 h2⟩
theorem o_H {W:World}{base:Nat}{t:TypeId}{v:Value}{fs:Array Field}(ht:P.underlying t=some (.struct fs))(h:OkW P W base t v):∃cs,v = .agg cs/\cs.size=P.cellsOf t:=okWide_struct ht h.h
theorem o_I {W:World}{base:Nat}{t:TypeId}{v:Value}{e:TypeId}(ht:P.underlying t=some (.slice e))(h:OkW P W base t v):∃a n c,v = .slice a n c:=okWide_slice ht h.h
theorem l_H {H:Type}{enc:TypeId×Value->H}(hl:laidOutB P=true){W W':World}(hb:Below W.heap.size W W'):∀(ts:List TypeId)(vs:List Value)(ds:List (DataW H))(ps:List MemPlace),(∀t∈ts,P.readableRec t=true/\t<P.types.size) ->
  DataW.TrodAll enc P W 0 (fun _=>true) true ts vs ds ps->(∀x∈ps,x.block<W.heap.size)->∀(sp:Nat->Bool),(∀b,b<W.heap.size->sp b=true)->DataW.TrodAll enc P W' 0 sp true ts vs ds ps
 | [],[],[],_,_,h,_,_,_=>h
 | t::ts,v::vs,d::ds,ps,hr,h,hlt,sp,hsp=>by
  obtain ⟨p,q,h1,h2,rfl⟩:=h;refine ⟨p,q,?_,l_H hl hb ts vs ds q (fun t ht=>hr t<|List.mem_cons_of_mem _ ht) h2 (fun x hx=>hlt x<|List.mem_append_right _ hx) sp hsp,rfl⟩;have hlp:∀x∈p,x.block<W.heap.size:=fun x hx=>hlt x<|List.mem_append_left _ hx
  exact WideElems.Trod_stays hl (hr t List.mem_cons_self).1 (hr t List.mem_cons_self).2 h1 (fun x hx=>hb.same<|hlp x hx) (fun x hx=>hsp _<|hlp x hx)
 | [],_::_,_,_,_,h,_,_,_=>by cases h
 | [],[],_::_,_,_,h,_,_,_=>by cases h
 | _::_,[],_,_,_,h,_,_,_=>by cases h
 | _::_,_::_,[],_,_,h,_,_,_=>by cases h
theorem o_J {H:Type}{enc:TypeId×Value->H}{f:Func}{s:ChangeSpec}{apart fresh handsOn again:Bool}{W W':World}{args:Array Value}{ds gs:List (DataW H)}{before:List MemPlace}{tb:TypeId}(hl:laidOutB P=true)(hread:∀t∈f.params.toList,P.readableRec t=true/\t<P.types.size)
  (hb:Below W.heap.size W W') (hW:DataW.Whole enc P f.params.toList s.vars apart W args.toList ds gs before) (hres:f.resultTypes = #[tb]) (htb:P.underlying tb=some .bool) (hvars:s.vars=[]) (hfn:s.fn H (ds++gs)={ results:=[.lit (.bool true)],args:=ds }) :
  s.post enc P f apart fresh handsOn again W args (.bool true) W':=by
 have hlt:∀x∈before,x.block<W.heap.size:=fun p hp=>hW.lt p hp
 have hW':=hW;obtain ⟨p,q,hA,hV,rfl,hz,hn⟩:=hW
 rw [hvars] at hV
 obtain ⟨rfl,rfl⟩:=trodVars_none hV;have hA':=fun sp hsp=>l_H hl hb _ _ _ _ hread hA (fun x hx=>hlt x (by simpa using hx)) sp hsp
 have hr:∀(b:Nat)(sp:Nat->Bool)(hd:Bool),DataW.TrodAll enc P W' b sp hd f.resultTypes.toList ((Value.bool true).resultList f.resultTypes.size) (s.fn H<|ds++[]).results []:=fun b sp hd=>by
  rw [hfn,hres];exact trodAll_cons_mk (shut_bool htb _) trodAll_mk0
 have hvs:∀sp:Nat->Bool,DataW.TrodVars enc P W' sp s.vars (s.fn H<|ds++[]).vars []:=fun sp=>by rw [hfn,hvars];rfl
 refine ⟨ds,[],p++[],[],p,[],hW',hr _ _ _,by rw [hfn];exact hA' _ (fun b hb=>by simpa using hb),hvs _,hb.frame _,fun _=>⟨?_,([.lit (.bool true)]:List (DataW H))++ds,[],([]++p)++[],⟨[]++p,[],?_,?_,rfl,?_,?_⟩,?_⟩⟩
 ·exact ok_one hres rfl<|okWide_bool_mk htb _
 ·have h1:=hr 0 (fun _=>true) true
  rw [hfn] at h1
  exact trodAll_append (hA' _<|fun _ _=>rfl) h1
 ·rw [hvars];rfl
 ·intro b off hp;have hp':MemPlace.cell b off∈p++[]:=by simpa using hp
  have:=hlt _ hp'
  rw [hb.frozen (p:=⟨b,off,none⟩) this]
  exact hz b off hp'
 ·intro ha;have:=hn ha;simpa using this
 ·intro x hx _;simpa using hx
end
end Go.Vw
namespace Go.Vw
open Go.RowKit Dat
theorem q_D {x y:Int}(h1 : -9223372036854775808<=x+y)(h2:x+y<=9223372036854775807):m_ x y=x+y:=by
 unfold m_;rw [IntKind.wrap_i64];omega
theorem b_7 {x y:Int}(h1 : -9223372036854775808<=x - y)(h2:x - y<=9223372036854775807):r_ x y=x - y:=by
 unfold r_;rw [IntKind.wrap_i64];omega
theorem e_p {x y:Int}(h1 : -9223372036854775808<=x * y)(h2:x * y<=9223372036854775807):a_f x y=x * y:=by
 unfold a_f;rw [IntKind.wrap_i64];omega
theorem m_V {x y:Int}(G:0<=x)(hx:x<=9223372036854775807)(hy:0<y):c_C x y=x / y:=by
 unfold c_C
 rw [Int.tdiv_eq_ediv_of_nonneg G,IntKind.wrap_i64]
 have h1:=Int.ediv_nonneg G<|Int.le_of_lt hy;have h2:=Int.ediv_le_self y G
 omega
theorem i_X {x y:Int}(G:0<=x):b_2 x y=x % y:=by
 unfold b_2;exact Int.tmod_eq_emod_of_nonneg G
theorem g_K {a b:UInt8}:byteI a=byteI b ↔ a=b:=by
 unfold byteI
 constructor
 ·intro h;have:a.toNat=b.toNat:=by omega
  exact UInt8.toNat_inj.1 this
 ·rintro rfl;rfl
section
variable {α:Type}
theorem k_i {l:List α}{k:Nat}(h:k<l.length):idx l (k:Int)=some l[k]:=by rw [o_2];simp [h]
theorem i_Y {l:List α}{i:Int}(G:0<=i)(h:i.toNat<l.length):idx l i=some l[i.toNat]:=by
 unfold idx;rw [if_pos G];simp [h]
theorem a_W {l:List α}(h:0<l.length):idx l 0=some l[0]:=k_i (k:=0) h
theorem k_j {l:List α}(h:1<l.length):idx l 1=some l[1]:=k_i (k:=1) h
theorem e_q {l:List α}{a b:Int}(G:0<=a)(h1:a<=b)(h2:b<=l.length):slc l a b=some ((l.take b.toNat).drop a.toNat):=by
 unfold slc;rw [if_pos ⟨G,h1,h2⟩]
theorem a_X {l:List α}{x:α}(h:l.length<LIM):psh l x=some (l++[x]):=by unfold psh;rw [if_pos h]
theorem c_j {l m:List α}(h:l.length+m.length<=LIM):app l m=some (l++m):=by unfold app;rw [if_pos h]
theorem a_g {s t:Str}(h:s.b.length+t.b.length<=LIM):cat s t=some ⟨s.b++t.b⟩:=by unfold cat;rw [if_pos h]
theorem g_L {l:List α}{k:Nat}{x:α}(h:k<l.length):upd l (k:Int) x=some (l.set k x):=by
 unfold upd;rw [if_pos ⟨by omega,by omega⟩];rfl
theorem f_g {z:α}{n:Nat}(h:n<=LIM):mk0 z (n:Int)=some (List.replicate n z):=by
 unfold mk0;rw [if_pos ⟨by omega,by omega⟩];simp
theorem q_E {z:α}{n:Int}(G:0<=n)(h:n<=LIM):mk0 z n=some (List.replicate n.toNat z):=by
 unfold mk0;rw [if_pos ⟨G,h⟩]
end
section
variable {σ ρ:Type}
theorem m_W {body:Nat->σ->Option (Out σ ρ)}(st:Nat->σ):∀n k,(∀j,k<=j->j<k+n->body j (st j)=some (.next<|st<|j+1))->z_ body n k (st k)=some (.inl<|st<|k+n)
 | 0,k,_=>rfl
 | n+1,k,h=>by
  have h1:=h k (Nat.le_refl _) (by omega);have h2:=m_W st n (k+1)<|fun j a b=>h j (by omega) (by omega);unfold z_
  rw [h1]
  simp only
  rw [h2,show k+1+n=k+(n+1) by omega]
theorem c_9 {body:Nat->σ->Option (Out σ ρ)}(st:Nat->σ){n:Nat}(h:∀j,j<n->body j (st j)=some (.next<|st<|j+1)):z_ body n 0 (st 0)=some (.inl<|st n):=by
 have:=m_W st n 0<|fun j _ b=>h j (by omega)
 simpa using this
theorem forN_ret' {body:Nat->σ->Option (Out σ ρ)}(st:Nat->σ){r:ρ}:∀n k j0,k<=j0->j0<k+n->(∀j,k<=j->j<j0->body j (st j)=some (.next<|st<|j+1))->body j0 (st j0)=some (.ret r)->z_ body n k (st k)=some (.inr r)
 | 0,k,j0,a,b,_,_=>by omega
 | n+1,k,j0,a,b,h,hr=>by
  unfold z_
  by_cases hk:k=j0
  ·subst hk;rw [hr]
  ·rw [h k (Nat.le_refl _) (by omega)]
   exact forN_ret' st n (k+1) j0 (by omega) (by omega) (fun j c d=>h j (by omega) d) hr
theorem k_k {body:Nat->σ->Option (Out σ ρ)}(st:Nat->σ){r:ρ}{n j0:Nat}(G:j0<n)(h:∀j,j<j0->body j (st j)=some (.next<|st<|j+1))(hr:body j0 (st j0)=some (.ret r)):z_ body n 0 (st 0)=some (.inr r) :=
 forN_ret' st n 0 j0 (by omega) (by omega) (fun j _ b=>h j b) hr
theorem i_Z {body:Nat->Unit->Option (Out Unit ρ)}{n:Nat}(p:Nat->Bool)(r:Nat->ρ)(h:∀k,k<n->(∀j,j<k->p j=false)->body k ()=some (if p k=true then .ret (r k) else .next ())) :
  z_ body n 0 ()=some (match (List.range n).find? p with | some k=>.inr (r k) | none=>.inl ()):=by
 cases hf:(List.range n).find? p with
 | none =>
  have hn:∀k,k<n->p k=false:=fun k hk=>by
   have:=List.find?_eq_none.1 hf k<|List.mem_range.2 hk
   simpa using this
  exact c_9 (fun _=>()) (fun j hj=>by rw [h j hj (fun i hi=>hn i (by omega)),hn j hj];rfl)
 | some k =>
  obtain ⟨hp,as,bs,hl,has⟩:=List.find?_eq_some_iff_append.1 hf
  have hk:as.length<n/\as.length=k:=by
   have h1:as.length<(List.range n).length:=by rw [hl];simp
   simp at h1
   refine ⟨h1,?_⟩;have h2:(List.range n)[as.length]? = some k:=by rw [hl];simp
   rw [List.getElem?_range h1] at h2
   exact Option.some.inj h2
  obtain ⟨h1,rfl⟩:=hk
  have hb:∀j,j<as.length->p j=false:=fun j hj=>by
   have h2:(List.range n)[j]? = some (as[j]):=by rw [hl,List.getElem?_append_left hj];simp
   rw [List.getElem?_range (by omega)] at h2
   have h3:=has as[j] (List.getElem_mem hj)
   rw [← Option.some.inj h2] at h3
   simpa using h3
  exact k_k (fun _=>()) h1 (fun j hj=>by rw [h j (by omega) (fun i hi=>hb i (by omega)),hb j hj];rfl) (by rw [h _ h1 hb,if_pos hp])
theorem q_F {α:Type}(l:List α)(p:α->Bool)(q:Nat->Bool)(h:∀k (hk:k<l.length),q k=p l[k]):(List.range l.length).any q=l.any p:=by
 rw [Bool.eq_iff_iff]
 simp only [List.any_eq_true,List.mem_range]
 constructor
 ·rintro ⟨k,hk,hq⟩;exact ⟨l[k],List.getElem_mem hk,by rw [← h k hk];exact hq⟩
 ·rintro ⟨x,hx,hp⟩;obtain ⟨k,hk,rfl⟩:=List.getElem_of_mem hx;exact ⟨k,hk,by rw [h k hk];exact hp⟩
theorem c_O {body:Nat->Unit->Option (Out Unit ρ)}{n:Nat}(p:Nat->Bool)(r:ρ)(h:∀k,k<n->(∀j,j<k->p j=false)->body k ()=some (if p k=true then .ret r else .next ())) :
  z_ body n 0 ()=some (if (List.range n).any p=true then .inr r else .inl ()):=by
 rw [i_Z p (fun _=>r) h]
 cases hf:(List.range n).find? p with
 | none =>
  have:(List.range n).any p=false:=by
   rw [List.any_eq_false];exact fun x hx=>by simpa using List.find?_eq_none.1 hf x hx
  rw [this];rfl
 | some k =>
  have:(List.range n).any p=true:=List.any_eq_true.2 ⟨k,List.mem_of_find?_eq_some hf,List.find?_some hf⟩
  rw [this];rfl
theorem d_8 {α:Type}{body:Nat->Unit->Option (Out Unit ρ)}{l:List α}(p:α->Bool)(r:ρ)(h:∀k (hk:k<l.length),body k ()=some (if p l[k]=true then .ret r else .next ())) :
  z_ body l.length 0 ()=some (if l.any p=true then .inr r else .inl ()):=by
 rw [c_O (fun k=>if hk:k<l.length then p l[k] else false) r (fun k hk _=>by rw [dif_pos hk];exact h k hk)]
 rw [q_F l p _ (fun k hk=>by rw [dif_pos hk])]
theorem iter_brk' {step:σ->Option (Out σ ρ)}(st:Nat->σ){s:σ}:∀m k j0,k<=j0->j0<k+m->(∀j,k<=j->j<j0->step (st j)=some (.next<|st<|j+1))->step (st j0)=some (.brk s)->U_ step m (st k)=some (.inl s)
 | 0,k,j0,a,b,_,_=>by omega
 | m+1,k,j0,a,b,h,hr=>by
  unfold U_
  by_cases hk:k=j0
  ·subst hk;rw [hr]
  ·rw [h k (Nat.le_refl _) (by omega)]
   exact iter_brk' st m (k+1) j0 (by omega) (by omega) (fun j c d=>h j (by omega) d) hr
theorem f_h {step:σ->Option (Out σ ρ)}(st:Nat->σ){s:σ}{m j0:Nat}(G:j0<m)(h:∀j,j<j0->step (st j)=some (.next<|st<|j+1))(hr:step (st j0)=some (.brk s)):U_ step m (st 0)=some (.inl s) :=
 iter_brk' st m 0 j0 (by omega) (by omega) (fun j _ b=>h j b) hr
theorem iter_ret' {step:σ->Option (Out σ ρ)}(st:Nat->σ){r:ρ}:∀m k j0,k<=j0->j0<k+m->(∀j,k<=j->j<j0->step (st j)=some (.next<|st<|j+1))->step (st j0)=some (.ret r)->U_ step m (st k)=some (.inr r)
 | 0,k,j0,a,b,_,_=>by omega
 | m+1,k,j0,a,b,h,hr=>by
  unfold U_
  by_cases hk:k=j0
  ·subst hk;rw [hr]
  ·rw [h k (Nat.le_refl _) (by omega)]
   exact iter_ret' st m (k+1) j0 (by omega) (by omega) (fun j c d=>h j (by omega) d) hr
theorem q_G {step:σ->Option (Out σ ρ)}(st:Nat->σ){r:ρ}{m j0:Nat}(G:j0<m)(h:∀j,j<j0->step (st j)=some (.next<|st<|j+1))(hr:step (st j0)=some (.ret r)):U_ step m (st 0)=some (.inr r) :=
 iter_ret' st m 0 j0 (by omega) (by omega) (fun j _ b=>h j b) hr
end
theorem m_X {s:Str}{p:Nat}(h:p<s.b.length)(ha:s.b[p].toNat<128):dec s p=((s.b[p].toNat:Int),1):=by
 have hq:p<(⟨s.b.toArray⟩:ByteArray).size:=by simpa [ByteArray.size] using h
 have hb:(⟨s.b.toArray⟩:ByteArray)[p]'hq=s.b[p]:=rfl;unfold dec
 rw [decode_ascii _ p hq (by rw [hb];exact ha),hb]
theorem q_H {s:Str}{p:Nat}(h:p<s.b.length)(ha:128<=s.b[p].toNat):128<=(dec s p).1:=by
 have hq:p<(⟨s.b.toArray⟩:ByteArray).size:=by simpa [ByteArray.size] using h
 have hb:(⟨s.b.toArray⟩:ByteArray)[p]'hq=s.b[p]:=rfl;unfold dec;have:=(decode_high _ p hq (by rw [hb];exact ha)).1
 simp only
 omega
abbrev bF_:=@Bool.false_eq_true
abbrev dT_:=@decide_eq_true
abbrev dF_:=@decide_eq_false
abbrev bQ_:=@beq_self_eq_true
abbrev mT_:=@List.mem_cons_of_mem
abbrev mS_:=@List.mem_cons_self
abbrev gE_:=@List.getElem_mem
abbrev oI_:=@Option.some.injEq
abbrev gG_:=@List.getElem?_eq_getElem
abbrev gD_:=@List.getD_eq_getElem?_getD
abbrev aE_:=@Bool.and_eq_true
abbrev dE_:=@decide_eq_true_eq
abbrev tN_:=@Int.toNat_natCast
abbrev gS_:=@List.getElem?_eq_some_iff
abbrev iP_:=@if_pos
abbrev iN_:=@if_neg
abbrev fF_:=@if_false
abbrev fT_:=@if_true
abbrev gN_:=@List.getElem?_eq_none
abbrev nT_:=@Bool.not_true
abbrev ix_:=@k_i
abbrev ia_:=@q_D
abbrev lC_:=@List.length_cons
abbrev bN_:=@bne_self_eq_false
abbrev dC_:=@List.drop_eq_getElem_cons
end Go.Vw
