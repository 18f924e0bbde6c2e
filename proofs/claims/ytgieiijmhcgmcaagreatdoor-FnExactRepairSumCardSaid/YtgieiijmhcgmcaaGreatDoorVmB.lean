/- Texts of this claim, put together. -/
import Derived.Test.YtgieiijmhcgmcaaGreatDoorVmA
import Derived.Laws.CopyRow
import Derived.Laws.IdiomStrings
import Derived.Lib.AppendStr
import Derived.Lib.Join
import Derived.Carry
import Derived.Deep.DeepHandedRow
import Derived.WalkKit
import Derived.ProofKit
import Derived.OpenShut
import Derived.Laws.RangeAny
set_option linter.unusedVariables false
namespace Go.Vw
def h_q (x1:List UInt8)(x2:Int):Option Int :=
 if (decide<|(K_ x2 (x1.length:Int))<0)=true then some (-1) else some (K_ x2 (x1.length:Int))
def f_o (x1:List Str)(x2:Int):Option Int :=
 if (decide<|(K_ x2 (x1.length:Int))<0)=true then some (-1) else bd (u_ (σ:=Int) (ρ:=Int) (fun H=>(fun h=>bd (idx x1 (H:Int)) fun G=>if (decide<|(K_ h (G.b.length:Int))<0)=true then some (.ret (-1)) else some (.next<|K_ h (G.b.length:Int)))) x1.length 0<|K_ x2 (x1.length:Int)) (el (fun h=>some h)<|fun I=>some I)
def f_p (x1:List Int)(x2:Int):Option Int :=
 if (decide<|(K_ x2 (x1.length:Int))<0)=true then some (-1) else some (K_ x2 (x1.length:Int))
def e_u (x1:a_)(x2:Int):Option Int :=
 if (decide<|(K_ x2 (x1.name.b.length:Int))<0)=true then some (-1) else bd (h_q x1.bytes<|K_ x2 (x1.name.b.length:Int)) fun h=>if (decide<|h<0)=true then some (-1) else bd (f_o x1.names h) fun G=>if (decide<|G<0)=true then some (-1) else bd (f_p x1.tags G) fun H=>if (decide<|H<0)=true then some (-1) else bd (f_p x1.kids H) fun I=>if (decide<|I<0)=true then some (-1) else some I
def h_r (x1:List a_)(x2:Int):Option Int :=
 if (decide<|(K_ x2 (x1.length:Int))<0)=true then some (-1) else bd (u_ (σ:=Int) (ρ:=Int) (fun H=>(fun h=>bd (idx x1 (H:Int)) fun I=>bd (e_u I h) fun G=>if (decide<|G<0)=true then some (.ret (-1)) else some (.next G))) x1.length 0<|K_ x2 (x1.length:Int)) (el (fun h=>some h)<|fun J=>some J)
def f_q (x1:g_)(x2:Int):Option Int :=
 bd (h_r x1.rules x2) fun h=>if (decide<|h<0)=true then some (-1) else some h
def c_O (x1:List UInt8):Option (List UInt8) :=
 bd (mk0 (0:UInt8) (x1.length:Int)) fun H=>bd (u_ (σ:=List UInt8) (ρ:=List UInt8) (fun G=>(fun h=>bd (idx x1 (G:Int)) fun I=>bd (upd h (G:Int) I) fun J=>some<|.next J)) x1.length 0 H)<|el (fun h=>some h)<|fun L=>some L
def f_r (x1:List Str):Option (List Str) :=
 bd (mk0 (⟨[]⟩:Str) (x1.length:Int)) fun H=>bd (u_ (σ:=List Str) (ρ:=List Str) (fun G=>(fun h=>bd (idx x1 (G:Int)) fun I=>bd (upd h (G:Int) I) fun J=>some<|.next J)) x1.length 0 H)<|el (fun h=>some h)<|fun L=>some L
def e_v (x1:List Int):Option (List Int) :=
 bd (mk0 0 (x1.length:Int)) fun H=>bd (u_ (σ:=List Int) (ρ:=List Int) (fun G=>(fun h=>bd (idx x1 (G:Int)) fun I=>bd (upd h (G:Int) I) fun J=>some<|.next J)) x1.length 0 H)<|el (fun h=>some h)<|fun L=>some L
def f_s (x1:a_):Option a_ :=
 bd (c_O x1.bytes) fun h=>bd (f_r x1.names) fun G=>bd (e_v x1.tags) fun H=>bd (e_v x1.kids) fun I=>some (⟨x1.name,x1.kind,x1.size,x1.little,h,G,H,I⟩:a_)
def h_s (x1:List a_):Option (List a_) :=
 bd (mk0 (⟨(⟨[]⟩:Str),0,0,false,([]:List UInt8),([]:List Str),([]:List Int),([]:List Int)⟩:a_) (x1.length:Int)) fun H=>bd (u_ (σ:=List a_) (ρ:=List a_) (fun G=>(fun h=>bd (idx x1 (G:Int)) fun I=>bd (f_s I) fun J=>bd (upd h (G:Int) J) fun L=>some<|.next L)) x1.length 0 H)<|el (fun h=>some h)<|fun O=>some O
def d_o (x1:g_):Option g_ :=
 bd (h_s x1.rules) fun h=>some (⟨h⟩:g_)
def a_R (x1:Int)(x2:Int)(x3:Int):Option Bool :=
 bd (α:=Bool) (if (decide<|x2<=x1)=true then some (decide<|x1<=x3) else some false) (fun h=>some h)
def e_w (x1:Str):Option Bool :=
 bd (u_ (σ:=Unit) (ρ:=Bool) (fun h=>(fun (_:Unit)=>bd (α:=Bool) (bd (idx x1.b (h:Int)) fun G=>if (decide<|(byteI (97:UInt8))<=(byteI G))=true then bd (idx x1.b (h:Int)) fun H=>some (decide<|(byteI H)<=(byteI (122:UInt8))) else some false) (fun I=>bd (α:=Bool) (bd (idx x1.b (h:Int)) fun J=>if (decide<|(byteI (48:UInt8))<=(byteI J))=true then bd (idx x1.b (h:Int)) fun L=>some (decide<|(byteI L)<=(byteI (57:UInt8))) else some false) (fun O=>bd (α:=Bool) (if (!I)=true then if (!O)=true then some true else some ((h:Int)==0) else some false) (fun V=>if V=true then some (.ret false) else some (.next ())))))) x1.b.length 0 ()) (el (fun (_:Unit)=>bd (a_R (x1.b.length:Int) 1 12) fun W=>some W)<|fun Y=>some Y)
def b_L (x1:a_)(x2:Bool)(x3:Bool)(x4:Bool)(x5:Bool)(x6:Int):Option Bool :=
 bd (α:=Bool) (bd (α:=Bool) (if x2=true then some true else some (x1.size==0)) fun h=>bd (α:=Bool) (if h=true then if x3=true then some true else some ((x1.bytes.length:Int)==0) else some false) fun G=>bd (α:=Bool) (if G=true then if x4=true then some true else some ((x1.names.length:Int)==0) else some false) fun H=>bd (α:=Bool) (if H=true then if x5=true then some true else some ((x1.tags.length:Int)==0) else some false) fun I=>bd (α:=Bool) (if I=true then if (decide<|x6<0)=true then some true else some ((x1.kids.length:Int)==x6) else some false) fun J=>if J=true then if (!x1.little)=true then some true else some (x1.kind==1) else some false) (fun L=>some L)
def h_t (x1:Int):Option Int :=
 bd (nn<|b_e 8 x1) fun h=>some<|b_p .i64 1<|b_e 8 x1
def d_S (x1:g_)(x2:Int):Option Int :=
 bd (α:=Bool) (bd (a_R x2 0<|K_ (x1.rules.length:Int) 1) fun h=>if (!h)=true then some true else bd (idx x1.rules x2) fun G=>if (G.kind != 1)=true then some true else bd (idx x1.rules x2) fun H=>bd (a_R H.size 1 4) fun I=>some (!I)) (fun J=>if J=true then some (-1) else bd (idx x1.rules x2) fun L=>bd (h_t L.size) fun O=>some<|K_ O 1)
def f_t (x1:List Str)(x2:Str):Option Bool :=
 bd (u_ (σ:=Unit) (ρ:=Bool) (fun h=>(fun (_:Unit)=>bd (idx x1 (h:Int)) fun G=>if (G.b==x2.b)=true then some (.ret true) else some (.next ()))) x1.length 0 ()) (el (fun (_:Unit)=>some false)<|fun H=>some H)
def f_u (x1:List Str):Option Bool :=
 bd (u_ (σ:=Unit) (ρ:=Bool) (fun h=>(fun (_:Unit)=>bd (α:=Bool) (bd (idx x1 (h:Int)) fun G=>bd (e_w G) fun H=>if (!H)=true then some true else bd (slc x1 0 (h:Int)) fun I=>bd (idx x1 (h:Int)) fun J=>bd (f_t I J) fun L=>some L) (fun O=>if O=true then some (.ret false) else some (.next ())))) x1.length 0 ()) (el (fun (_:Unit)=>bd (a_R (x1.length:Int) 1 8) fun V=>some V)<|fun W=>some W)
def f_v (x1:g_)(x2:a_):Option Bool :=
 bd (α:=Bool) (if ((x2.kids.length:Int) != (h_ (x2.tags.length:Int) 1))=true then some true else bd (a_R (x2.tags.length:Int) 1 8) fun G=>some (!G)) (fun H=>if H=true then some false else bd (u_ (σ:=Unit) (ρ:=Bool) (fun h=>(fun (_:Unit)=>bd (α:=Bool) (bd (idx x2.tags (h:Int)) fun I=>bd (idx x2.kids 0) fun J=>bd (d_S x1 J) fun L=>bd (a_R I 0 L) fun O=>if (!O)=true then some true else if (decide<|0<(h:Int))=true then bd (idx x2.tags<|K_ (h:Int) 1) fun V=>bd (idx x2.tags (h:Int)) fun W=>some (decide<|W<=V) else some false) (fun Y=>if Y=true then some (.ret false) else some (.next ())))) x2.tags.length 0 ()) (el (fun (_:Unit)=>some true)<|fun a0=>some a0))
def f_w (x1:g_)(x2:a_):Option Bool :=
 if (x2.kind==1)=true then bd (α:=Bool) (bd (b_L x2 true false false false 0) fun h=>if h=true then bd (a_R x2.size 1 4) fun G=>if G=true then if (!x2.little)=true then some true else some (decide<|1<x2.size) else some false else some false) (fun H=>some H) else if (x2.kind==2)=true then bd (α:=Bool) (bd (b_L x2 false true false false 0) fun I=>if I=true then bd (a_R (x2.bytes.length:Int) 1 16) fun J=>some J else some false) (fun L=>some L) else if (x2.kind==3)=true then bd (α:=Bool) (bd (b_L x2 true false false false 0) fun O=>if O=true then bd (a_R x2.size 1 64) fun V=>some V else some false) (fun W=>some W) else if (x2.kind==4)=true then bd (α:=Bool) (bd (b_L x2 false false false false 1) fun Y=>if Y=true then bd (idx x2.kids 0) fun a0=>bd (d_S x1 a0) fun a1=>some (decide<|0<a1) else some false) (fun a2=>some a2) else if (x2.kind==5)=true then bd (α:=Bool) (bd (b_L x2 false false false false 2) fun a3=>if a3=true then bd (idx x2.kids 0) fun a4=>bd (d_S x1 a4) fun a5=>some (decide<|0<a5) else some false) (fun a6=>some a6) else if (x2.kind==6)=true then bd (α:=Bool) (bd (b_L x2 false false true false (x2.names.length:Int)) fun a7=>if a7=true then bd (f_u x2.names) fun a8=>some a8 else some false) (fun a9=>some a9) else if (x2.kind==7)=true then bd (α:=Bool) (bd (b_L x2 false false false true (-1)) fun aa=>if aa=true then bd (f_v x1 x2) fun ab=>some ab else some false) (fun ad=>some ad) else bd (α:=Bool) (if (x2.kind==8)=true then some (x2.kind==8) else some (x2.kind==9)) (fun ae=>if ae=true then bd (b_L x2 false false false false 1) fun af=>some af else if (x2.kind==10)=true then bd (α:=Bool) (bd (b_L x2 false true false false 0) fun ah=>if ah=true then if ((x2.bytes.length:Int)==1)=true then bd (idx x2.bytes 0) fun ai=>some ((byteI ai) != (byteI (92:UInt8))) else some false else some false) (fun aj=>some aj) else some false)
def f_x (x1:g_)(x2:Int):Option Bool :=
 bd (a_R x2 0<|K_ (x1.rules.length:Int) 1) fun G=>if (!G)=true then some false else bd (idx x1.rules x2) fun h=>bd (u_ (σ:=Unit) (ρ:=Bool) (fun H=>(fun (_:Unit)=>bd (idx x1.rules (H:Int)) fun I=>if (I.name.b==h.name.b)=true then some (.ret false) else some (.next ()))) x2.toNat 0 ()) (el (fun (_:Unit)=>bd (u_ (σ:=Unit) (ρ:=Bool) (fun J=>(fun (_:Unit)=>bd (idx h.kids (J:Int)) fun L=>bd (a_R L 0<|K_ x2 1) fun O=>if (!O)=true then some (.ret false) else some (.next ()))) h.kids.length 0 ()) (el (fun (_:Unit)=>bd (α:=Bool) (bd (e_w h.name) fun V=>if V=true then bd (f_w x1 h) fun W=>some W else some false)<|fun Y=>some Y)<|fun a0=>some a0))<|fun a1=>some a1)
def f_y (x1:g_):Option Bool :=
 bd (u_ (σ:=Unit) (ρ:=Bool) (fun h=>(fun (_:Unit)=>bd (f_x x1 (h:Int)) fun G=>if (!G)=true then some (.ret false) else some (.next ()))) x1.rules.length 0 ()) (el (fun (_:Unit)=>bd (a_R (x1.rules.length:Int) 1 24) fun H=>some H)<|fun I=>some I)
def f_z (x1:g_):Option Int :=
 some (K_ (x1.rules.length:Int) 1)
def f_A (x1:List UInt8)(x2:Bool):Option Int :=
 if (decide<|4<(x1.length:Int))=true then some 0 else bd (u_ (σ:=Int) (ρ:=Int) (fun G=>(fun h=>bd (α:=Int) (if x2=true then some (K_ (K_ (x1.length:Int) 1) (G:Int)) else some (G:Int))<|fun H=>bd (idx x1 H) fun I=>some<|.next<|h_ (b_e h 256)<|byteI I)) x1.length 0 0) (el (fun h=>some h)<|fun J=>some J)
def d_T (x1:g_)(x2:Int)(x3:List UInt8)(x4:Int):Option (Int×Int×Bool) :=
 bd (idx x1.rules x2) fun h=>if (decide<|(K_ (x3.length:Int) x4)<h.size)=true then some (0,x4,false) else bd (slc x3 x4<|h_ x4 h.size) fun G=>bd (f_A G h.little) fun H=>some (H,h_ x4 h.size,true)
def d_p (x1:a_)(x2:Int)(x3:Int):Option Int :=
 if (x1.kind==5)=true then bd (idx x1.kids 1) fun G=>some G else bd (α:=Sum Unit Int) (if (x1.kind==6)=true then if (decide<|x3<(x1.kids.length:Int))=true then bd (idx x1.kids x3) fun H=>some (.inr H) else some (.inl ()) else bd (α:=Sum Unit<|Sum Unit Int) (if (x1.kind==7)=true then bd (u_ (σ:=Unit) (ρ:=Int) (fun h=>(fun (_:Unit)=>bd (idx x1.tags (h:Int)) fun I=>if (I==x2)=true then bd (idx x1.kids ((h+1:Nat):Int)) fun J=>some (.ret J) else some (.next ()))) x1.tags.length 0 ()) (el (fun (_:Unit)=>some<|.inl ())<|fun L=>some<|.inr<|.inr L) else bd (α:=Bool) (if (x1.kind==8)=true then some (x1.kind==8) else some (x1.kind==9)) (fun O=>if O=true then bd (idx x1.kids 0) fun V=>some (.inr<|.inr V) else some (.inl ()))) (el (fun (_:Unit)=>some<|.inl ()) some)) (el (fun (_:Unit)=>some (-1)) some)
def f_B (x1:a_)(x2:List UInt8)(x3:Int):Option (Val×Int×Int) :=
 bd (u_ (σ:=Unit) (ρ:=Val×Int×Int) (fun h=>(fun (_:Unit)=>if (decide<|(x2.length:Int)<=(h_ x3 (h:Int)))=true then some (.ret ((⟨0,([]:List UInt8),([]:List Val)⟩:Val),x3,1)) else bd (idx x2<|h_ x3 (h:Int)) fun G=>bd (idx x1.bytes (h:Int)) fun H=>if ((byteI G) != (byteI H))=true then some (.ret ((⟨0,([]:List UInt8),([]:List Val)⟩:Val),h_ x3 (h:Int),2)) else some (.next ()))) x1.bytes.length 0 ()) (el (fun (_:Unit)=>some ((⟨0,([]:List UInt8),([]:List Val)⟩:Val),h_ x3 (x1.bytes.length:Int),0))<|fun I=>some I)
def e_x (x1:List UInt8)(x2:Int)(x3:Int):Option (Val×Int×Int) :=
 if (decide<|(K_ (x1.length:Int) x2)<x3)=true then some ((⟨0,([]:List UInt8),([]:List Val)⟩:Val),x2,1) else bd (slc x1 x2<|h_ x2 x3) fun h=>bd (app ([]:List UInt8) h) fun G=>some ((⟨0,G,([]:List Val)⟩:Val),h_ x2 x3,0)
def f_C (n:Nat)(x1:List UInt8)(x2:Int)(x3:UInt8):Option ((List UInt8)×Int×Bool) :=
 bd (a_5 (σ:=(List UInt8)×Int) (ρ:=(List UInt8)×Int×Bool) (un2 fun G h=>bd (α:=Bool) (bd (a_R x2 0 (x1.length:Int)) fun I=>if I=true then some (decide<|h<(x1.length:Int)) else some false) (fun J=>if J=true then bd (idx x1 h) fun L=>if ((byteI L)==(byteI x3))=true then some (.ret (G,h_ h 1,true)) else bd (idx x1 h) fun O=>bd (α:=Sum Int<|Out ((List UInt8)×Int)<|(List UInt8)×Int×Bool) (if ((byteI O)==(byteI (92:UInt8)))=true then if ((h_ h 1)==(x1.length:Int))=true then some (.inr<|.brk (G,h_ h 1)) else some (.inl<|h_ h 1) else some (.inl h)) (el (fun H=>bd (idx x1 H) fun V=>bd (psh G V) fun W=>some<|.next (W,h_ H 1)) some) else some (.brk (G,h)))) n (([]:List UInt8),x2)) (el (un2 fun G h=>some (([]:List UInt8),x2,false))<|fun Y=>some Y)
def f_D (x1:List UInt8):Option Int :=
 bd (u_ (σ:=Int) (ρ:=Int) (fun G=>(fun h=>bd (idx x1 (G:Int)) fun H=>some<|.next<|b_8 (h_ h<|byteI H) 256)) x1.length 0 0) (el (fun h=>some h)<|fun I=>some I)
structure e_y where
 spec_l11Read:g_->Int->(List UInt8)->Int->Option (Val×Int×Int)
 spec_l11Items:g_->a_->Int->Int->(List UInt8)->Int->Option (Val×Int×Int)
 spec_l11Choice:g_->a_->(List UInt8)->Int->Option (Val×Int×Int)
 spec_l11Option:g_->a_->(List UInt8)->Int->Option (Val×Int×Int)
 spec_l11Checked:g_->a_->(List UInt8)->Int->Option (Val×Int×Int)
def f_E (n:Nat)(rec:e_y)(x1:g_)(x2:Int)(x3:List UInt8)(x4:Int):Option (Val×Int×Int) :=
 bd (idx x1.rules x2) fun h=>if (h.kind==1)=true then bd3 (d_T x1 x2 x3 x4) fun I J L=>if (!L)=true then some ((⟨0,([]:List UInt8),([]:List Val)⟩:Val),x4,1) else some ((⟨I,([]:List UInt8),([]:List Val)⟩:Val),J,0) else if (h.kind==2)=true then bd3 (f_B h x3 x4) fun O V W=>some (O,V,W) else if (h.kind==3)=true then bd3 (e_x x3 x4 h.size) fun Y a0 a1=>some (Y,a0,a1) else if (h.kind==10)=true then bd (idx h.bytes 0) fun a2=>bd3 (f_C n x3 x4 a2) fun a3 a4 a5=>if (!a5)=true then some ((⟨0,([]:List UInt8),([]:List Val)⟩:Val),x4,1) else some ((⟨0,a3,([]:List Val)⟩:Val),a4,0) else if (h.kind==6)=true then bd3 (rec.spec_l11Items x1 h 0 (h.kids.length:Int) x3 x4) fun a6 a7 a8=>some (a6,a7,a8) else if (h.kind==7)=true then bd3 (rec.spec_l11Choice x1 h x3 x4) fun a9 aa ab=>some (a9,aa,ab) else if (h.kind==8)=true then bd3 (rec.spec_l11Option x1 h x3 x4) fun ad ae af=>some (ad,ae,af) else if (h.kind==9)=true then bd3 (rec.spec_l11Checked x1 h x3 x4) fun ah ai aj=>some (ah,ai,aj) else bd (idx h.kids 0) fun ak=>bd3 (d_T x1 ak x3 x4) fun G H al=>if (!al)=true then some ((⟨0,([]:List UInt8),([]:List Val)⟩:Val),x4,1) else if (h.kind==4)=true then bd3 (e_x x3 H G) fun am an ao=>some (am,an,ao) else if (decide<|40<G)=true then some ((⟨0,([]:List UInt8),([]:List Val)⟩:Val),x4,6) else bd3 (rec.spec_l11Items x1 h 0 G x3 H) fun ap aq ar=>some (ap,aq,ar)
def f_F (n:Nat)(rec:e_y)(x1:g_)(x2:a_)(x3:Int)(x4:Int)(x5:List UInt8)(x6:Int):Option (Val×Int×Int) :=
 bd (u_ (σ:=Int×(List Val)) (ρ:=Val×Int×Int) (fun L=>un2 fun h G=>bd (α:=Int×(List UInt8)×(List Val)×Int×Int) (bd (d_p x2 x3 (L:Int)) fun O=>bd3 (rec.spec_l11Read x1 O x5 h) fun H V W=>some (H.number,H.bytes,H.items,V,W)) (un5 fun Y a0 a1 I J=>if (J != 0)=true then some (.ret ((⟨0,([]:List UInt8),([]:List Val)⟩:Val),I,J)) else bd (psh G (⟨Y,a0,a1⟩:Val)) fun a2=>some<|.next (I,a2))) x4.toNat 0 (x6,([]:List Val))) (el (un2 fun h G=>some ((⟨0,([]:List UInt8),G⟩:Val),h,0))<|fun a3=>some a3)
def f_G (n:Nat)(rec:e_y)(x1:g_)(x2:a_)(x3:List UInt8)(x4:Int):Option (Val×Int×Int) :=
 bd (idx x2.kids 0) fun I=>bd3 (d_T x1 I x3 x4) fun h J L=>if (!L)=true then some ((⟨0,([]:List UInt8),([]:List Val)⟩:Val),x4,1) else bd (d_p x2 h 0) fun O=>if (decide<|O<0)=true then some ((⟨0,([]:List UInt8),([]:List Val)⟩:Val),x4,3) else bd3 (rec.spec_l11Items x1 x2 h 1 x3 J) fun G V H=>bd (α:=Int) (if (H==0)=true then some h else some G.number)<|fun W=>some ((⟨W,G.bytes,G.items⟩:Val),V,H)
def f_H (n:Nat)(rec:e_y)(x1:g_)(x2:a_)(x3:List UInt8)(x4:Int):Option (Val×Int×Int) :=
 if (decide<|(x3.length:Int)<=x4)=true then some ((⟨0,([]:List UInt8),([]:List Val)⟩:Val),x4,1) else bd (idx x3 x4) fun h=>if (decide<|(byteI (1:UInt8))<(byteI h))=true then some ((⟨0,([]:List UInt8),([]:List Val)⟩:Val),x4,4) else bd (idx x3 x4) fun G=>bd3 (rec.spec_l11Items x1 x2 0 (byteI G) x3<|h_ x4 1) fun H I J=>some (H,I,J)
def f_I (n:Nat)(rec:e_y)(x1:g_)(x2:a_)(x3:List UInt8)(x4:Int):Option (Val×Int×Int) :=
 bd3 (rec.spec_l11Items x1 x2 0 1 x3 x4) fun G h H=>if (H != 0)=true then some (G,h,H) else if (decide<|(x3.length:Int)<=h)=true then some ((⟨0,([]:List UInt8),([]:List Val)⟩:Val),h,1) else bd (idx x3 h) fun I=>bd (slc x3 x4 h) fun J=>bd (f_D J) fun L=>if ((byteI I) != L)=true then some ((⟨0,([]:List UInt8),([]:List Val)⟩:Val),h,5) else some (G,h_ h 1,0)
def a_8:Nat->e_y
 | 0=>⟨fun _ _ _ _=>none,fun _ _ _ _ _ _=>none,fun _ _ _ _=>none,fun _ _ _ _=>none,fun _ _ _ _=>none⟩
 | n+1=>⟨f_E n<|a_8 n,f_F n<|a_8 n,f_G n<|a_8 n,f_H n<|a_8 n,f_I n<|a_8 n⟩
def h_u (n:Nat):=(a_8 n).spec_l11Read
def d_U (n:Nat):=(a_8 n).spec_l11Items
def f_J (x1:g_)(x2:Int):Option Bool :=
 bd (α:=Bool) (bd (a_R x2 0<|K_ (x1.rules.length:Int) 1) fun h=>if h=true then bd (f_y x1) fun G=>some G else some false) (fun H=>some H)
def f_K (n:Nat)(x1:g_)(x2:Int)(x3:List UInt8)(x4:Int):Option (Val×Int×Int) :=
 bd (α:=Bool) (bd (f_J x1 x2) fun h=>if (!h)=true then some true else bd (a_R x4 0 (x3.length:Int)) fun G=>if (!G)=true then some true else some (decide<|400<(x3.length:Int))) (fun H=>if H=true then some ((⟨0,([]:List UInt8),([]:List Val)⟩:Val),0,8) else bd3 (h_u n x1 x2 x3 x4) fun I J L=>some (I,J,L))
def e_z (n:Nat)(x1:g_)(x2:List UInt8):Option (Val×Int×Int) :=
 bd (α:=Int×(List UInt8)×(List Val)×Int×Int) (bd (f_z x1) fun I=>bd3 (f_K n x1 I x2 0) fun h J L=>some (h.number,h.bytes,h.items,J,L)) (un5 fun O V W G H=>bd (α:=Bool) (if (H==0)=true then some (decide<|G<(x2.length:Int)) else some false) (fun Y=>if Y=true then some ((⟨0,([]:List UInt8),([]:List Val)⟩:Val),G,7) else some ((⟨O,V,W⟩:Val),G,H)))
def e_A (n:Nat)(x1:g_)(x2:List UInt8):Option Bool :=
 bd3 (e_z n x1 x2) fun G H h=>some<|h==0
def e_B (x1:Str)(x2:UInt8):Option (List Str) :=
 bd (u_ (σ:=(List Str)×Int) (ρ:=List Str) (fun H=>un2 fun h G=>bd (idx x1.b (H:Int)) fun I=>bd (α:=(List Str)×Int) (if ((byteI I)==(byteI x2))=true then bd (b_Z x1 G (H:Int)) fun J=>bd (psh h J) fun L=>some (L,((H+1:Nat):Int)) else some (h,G))<|un2 fun O V=>some<|.next (O,V)) x1.b.length 0 (([]:List Str),0)) (el (un2 fun h G=>bd (b_Z x1 G (x1.b.length:Int)) fun W=>bd (psh h W) fun Y=>some Y)<|fun a0=>some a0)
def d_q (n:Nat)(x1:Str):Option Bool :=
 bd (α:=Bool) (if (decide<|(x1.b.length:Int)<1)=true then some true else some (decide<|12<(x1.b.length:Int))) (fun G=>if G=true then some false else bd (a_5 (σ:=Nat) (ρ:=Bool) (fun h=>if (decide<|h<x1.b.length)=true then bd (α:=Bool) (if (decide<|97<=((dec x1 h).1))=true then some (decide<|((dec x1 h).1)<=122) else some false) (fun H=>bd (α:=Bool) (if (decide<|48<=((dec x1 h).1))=true then some (decide<|((dec x1 h).1)<=57) else some false) (fun I=>bd (α:=Bool) (if (!H)=true then if (!I)=true then some true else some ((h:Int)==0) else some false) (fun J=>if J=true then some (.ret false) else some (.next<|h+(dec x1 h).2)))) else some (.brk h)) n 0) (el (fun h=>some true)<|fun L=>some L))
def e_C (x1:Str):Option (Int×Bool) :=
 bd (α:=Bool) (if (x1.b==(⟨[]⟩:Str).b)=true then some true else if (decide<|13<(x1.b.length:Int))=true then some true else bd (idx x1.b 0) fun H=>if ((byteI H)==(byteI (48:UInt8)))=true then some (decide<|1<(x1.b.length:Int)) else some false) (fun I=>if I=true then some (0,false) else bd (u_ (σ:=Int) (ρ:=Int×Bool) (fun G=>(fun h=>bd (α:=Bool) (bd (idx x1.b (G:Int)) fun J=>if (decide<|(byteI J)<(byteI (48:UInt8)))=true then some true else bd (idx x1.b (G:Int)) fun L=>some<|decide<|(byteI (57:UInt8))<(byteI L)) (fun O=>if O=true then some (.ret (0,false)) else bd (idx x1.b (G:Int)) fun V=>some<|.next<|h_ (b_e 10 h)<|byteI<|mkB<|byteI V - byteI (48:UInt8)))) x1.b.length 0 0) (el (fun h=>if (decide<|1000000000000<h)=true then some (0,false) else some (h,true))<|fun W=>some W))
def d_V (n:Nat)(x1:Str):Option Bool :=
 bd (α:=Bool) (bd (d_q n x1) fun h=>if h=true then some true else if (x1.b==(⟨[42]⟩:Str).b)=true then some true else if (x1.b==(⟨[63]⟩:Str).b)=true then some true else some (x1.b==(⟨[43]⟩:Str).b)) (fun G=>if G=true then some true else bd2 (e_C x1) fun I H=>some H)
def h_v (n:Nat)(x1:Str):Option ((List Str)×Bool) :=
 if (x1.b==(⟨[]⟩:Str).b)=true then some ([],true) else bd (idx x1.b 0) fun c=>if (byteI c != byteI (47:UInt8))=true then some ([],false) else bd (e_B x1 (47:UInt8)) fun l=>bd (slc l 1 (l.length:Int)) fun parts=>bd (e_t (d_V n) parts) fun oks=>if parts.length<LIM then some (if oks.all id=true then (parts,true) else ([],false)) else none
def f_L (n:Nat)(x1:Str):Option ((List Str)×Bool) :=
 bd2 (h_v n x1) fun h G=>some (h,G)
def b_M (x1:Int)(x2:Int)(x3:Int):Option Bool :=
 bd (α:=Bool) (if (decide<|x2<=x1)=true then some (decide<|x1<=x3) else some false) (fun h=>some h)
def d_r (x1:g_)(x2:Int):Option Bool :=
 bd (α:=Bool) (if (decide<|0<=x2)=true then some (decide<|x2<(x1.rules.length:Int)) else some false) (fun h=>some h)
def b_N (x1:a_)(x2:Bool)(x3:Bool)(x4:Bool)(x5:Bool)(x6:Int):Option Bool :=
 bd (α:=Bool) (bd (α:=Bool) (if x2=true then some true else some (x1.size==0)) fun h=>bd (α:=Bool) (if h=true then if x3=true then some true else some ((x1.bytes.length:Int)==0) else some false) fun G=>bd (α:=Bool) (if G=true then if x4=true then some true else some ((x1.names.length:Int)==0) else some false) fun H=>bd (α:=Bool) (if H=true then if x5=true then some true else some ((x1.tags.length:Int)==0) else some false) fun I=>if I=true then if (decide<|x6<0)=true then some true else some ((x1.kids.length:Int)==x6) else some false) (fun J=>some J)
def d_W (x1:g_)(x2:Int):Option Int :=
 bd (α:=Bool) (bd (d_r x1 x2) fun G=>if (!G)=true then some true else bd (idx x1.rules x2) fun H=>if (H.kind != 1)=true then some true else bd (idx x1.rules x2) fun I=>bd (b_M I.size 1 4) fun J=>some (!J)) (fun L=>if L=true then some (-1) else bd (idx x1.rules x2) fun h=>bd (nn<|b_e 8 h.size) fun O=>some<|K_ (b_p .i64 1<|b_e 8 h.size) 1)
def d_X (x1:List Str)(x2:Str):Option Bool :=
 bd (u_ (σ:=Unit) (ρ:=Bool) (fun h=>(fun (_:Unit)=>bd (idx x1 (h:Int)) fun G=>if (G.b==x2.b)=true then some (.ret true) else some (.next ()))) x1.length 0 ()) (el (fun (_:Unit)=>some false)<|fun H=>some H)
def f_M (n:Nat)(x1:a_):Option Bool :=
 bd (α:=Bool) (bd (b_N x1 false false true false (-1)) fun H=>if (!H)=true then some true else if ((x1.kids.length:Int) != (x1.names.length:Int))=true then some true else bd (b_M (x1.kids.length:Int) 1 8) fun I=>some (!I)) (fun J=>if J=true then some false else bd (u_ (σ:=Unit) (ρ:=Bool) (fun h=>(fun (_:Unit)=>bd (idx x1.names (h:Int)) fun G=>bd (α:=Bool) (bd (d_q n G) fun L=>if (!L)=true then some true else bd (slc x1.names 0 (h:Int)) fun O=>bd (d_X O G) fun V=>some V) (fun W=>if W=true then some (.ret false) else some (.next ())))) x1.names.length 0 ()) (el (fun (_:Unit)=>some true)<|fun Y=>some Y))
def f_N (x1:g_)(x2:a_):Option Bool :=
 bd (α:=Bool) (bd (b_N x2 false false false true<|h_ (x2.tags.length:Int) 1) fun I=>if (!I)=true then some true else bd (b_M (x2.tags.length:Int) 1 8) fun J=>some (!J)) (fun L=>if L=true then some false else bd (idx x2.kids 0) fun O=>bd (d_W x1 O) fun G=>bd (u_ (σ:=Unit) (ρ:=Bool) (fun h=>(fun (_:Unit)=>bd (idx x2.tags (h:Int)) fun H=>bd (α:=Bool) (bd (b_M H 0 G) fun V=>if (!V)=true then some true else if (decide<|0<(h:Int))=true then bd (idx x2.tags<|K_ (h:Int) 1) fun W=>some (decide<|H<=W) else some false) (fun Y=>if Y=true then some (.ret false) else some (.next ())))) x2.tags.length 0 ())<|el (fun (_:Unit)=>some<|decide<|0<G)<|fun a0=>some a0)
def f_O (n:Nat)(x1:g_)(x2:a_):Option Bool :=
 if (x2.kind==1)=true then bd (α:=Bool) (bd (b_N x2 true false false false 0) fun h=>if h=true then bd (b_M x2.size 1 4) fun G=>if G=true then if (!x2.little)=true then some true else some (decide<|1<x2.size) else some false else some false) (fun H=>some H) else if (x2.kind==2)=true then bd (α:=Bool) (bd (b_N x2 false true false false 0) fun I=>if I=true then bd (b_M (x2.bytes.length:Int) 1 16) fun J=>some J else some false) (fun L=>some L) else if (x2.kind==3)=true then bd (α:=Bool) (bd (b_N x2 true false false false 0) fun O=>if O=true then bd (b_M x2.size 1 64) fun V=>some V else some false) (fun W=>some W) else if (x2.kind==4)=true then bd (α:=Bool) (bd (b_N x2 false false false false 1) fun Y=>if Y=true then bd (idx x2.kids 0) fun a0=>bd (d_W x1 a0) fun a1=>some (decide<|0<a1) else some false) (fun a2=>some a2) else if (x2.kind==5)=true then bd (α:=Bool) (bd (b_N x2 false false false false 2) fun a3=>if a3=true then bd (idx x2.kids 0) fun a4=>bd (d_W x1 a4) fun a5=>some (decide<|0<a5) else some false) (fun a6=>some a6) else if (x2.kind==6)=true then bd (f_M n x2) fun a7=>some a7 else if (x2.kind==7)=true then bd (f_N x1 x2) fun a8=>some a8 else bd (α:=Bool) (if (x2.kind==8)=true then some (x2.kind==8) else some (x2.kind==9)) (fun a9=>if a9=true then bd (b_N x2 false false false false 1) fun aa=>some aa else if (x2.kind==10)=true then bd (α:=Bool) (bd (b_N x2 false true false false 0) fun ab=>if ab=true then if ((x2.bytes.length:Int)==1)=true then bd (idx x2.bytes 0) fun ad=>some ((byteI ad) != (byteI (92:UInt8))) else some false else some false) (fun ae=>some ae) else some false)
def f_P (n:Nat)(x1:g_)(x2:Int):Option Bool :=
 bd (d_r x1 x2) fun I=>if (!I)=true then some false else bd (idx x1.rules x2) fun h=>bd (α:=Bool) (bd (d_q n h.name) fun J=>if (!J)=true then some true else if h.little=true then some (h.kind != 1) else some false) (fun L=>if L=true then some false else bd (slc x1.rules 0 x2) fun G=>bd (u_ (σ:=Unit) (ρ:=Bool) (fun O=>(fun (_:Unit)=>bd (idx G (O:Int)) fun V=>if (V.name.b==h.name.b)=true then some (.ret false) else some (.next ()))) G.length 0 ()) (el (fun (_:Unit)=>bd (u_ (σ:=Unit) (ρ:=Bool) (fun W=>(fun (_:Unit)=>bd (idx h.kids (W:Int)) fun H=>bd (α:=Bool) (if (decide<|H<0)=true then some true else some (decide<|x2<=H)) (fun Y=>if Y=true then some (.ret false) else some (.next ())))) h.kids.length 0 ())<|el (fun (_:Unit)=>bd (f_O n x1 h) fun a0=>some a0)<|fun a1=>some a1)<|fun a2=>some a2))
def f_Q (n:Nat)(x1:g_):Option Bool :=
 bd (b_M (x1.rules.length:Int) 1 24) fun h=>if (!h)=true then some false else bd (u_ (σ:=Unit) (ρ:=Bool) (fun G=>(fun (_:Unit)=>bd (f_P n x1 (G:Int)) fun H=>if (!H)=true then some (.ret false) else some (.next ()))) x1.rules.length 0 ()) (el (fun (_:Unit)=>some true)<|fun I=>some I)
def c_P (x1:g_):Option Int :=
 some (K_ (x1.rules.length:Int) 1)
def d_Y (n:Nat)(x1:g_)(x2:Int):Option Bool :=
 bd (α:=Bool) (bd (f_Q n x1) fun h=>if h=true then bd (d_r x1 x2) fun G=>some G else some false) (fun H=>some H)
def c_Q (x1:S_)(x2:Int)(x3:Int):Option B_ :=
 if (decide<|(K_ (x1.b.length:Int) x2)<x3)=true then some (⟨x2,1⟩:B_) else some (⟨h_ x2 x3,0⟩:B_)
def c_R (x1:List UInt8)(x2:Bool):Option Int :=
 if (decide<|4<(x1.length:Int))=true then some 0 else bd (u_ (σ:=Int) (ρ:=Int) (fun G=>(fun h=>bd (α:=Int) (if x2=true then bd (idx x1<|K_ (K_ (x1.length:Int) 1) (G:Int)) fun H=>some (c_2 .i64 (· ||| ·) (b_p .i64 h 8)<|byteI H) else bd (idx x1 (G:Int)) fun I=>some<|c_2 .i64 (· ||| ·) (b_p .i64 h 8)<|byteI I)<|fun J=>some<|.next J)) x1.length 0 0) (el (fun h=>some h)<|fun L=>some L)
def d_s (x1:S_)(x2:Int)(x3:Int):Option (Int×B_×Int) :=
 bd (idx x1.d.rules x2) fun G=>bd (c_Q (⟨(⟨x1.d.rules⟩:g_),x1.b,h_ x1.applied 1⟩:S_) x3 G.size) fun h=>if (h.code != 0)=true then some (0,h,h_ x1.applied 1) else bd (slc x1.b x3 h.at_) fun H=>bd (c_R H G.little) fun I=>some (I,h,h_ x1.applied 1)
def f_R (x1:S_)(x2:a_)(x3:Int):Option B_ :=
 bd (u_ (σ:=Unit) (ρ:=B_) (fun h=>(fun (_:Unit)=>bd (idx x2.bytes (h:Int)) fun G=>if ((h_ x3 (h:Int))==(x1.b.length:Int))=true then some (.ret (⟨x3,1⟩:B_)) else bd (idx x1.b<|h_ x3 (h:Int)) fun H=>if ((byteI H) != (byteI G))=true then some (.ret (⟨h_ x3 (h:Int),2⟩:B_)) else some (.next ()))) x2.bytes.length 0 ()) (el (fun (_:Unit)=>some (⟨h_ x3 (x2.bytes.length:Int),0⟩:B_))<|fun I=>some I)
def d_t (x1:List UInt8):Option Int :=
 bd (u_ (σ:=Int) (ρ:=Int) (fun G=>(fun h=>bd (idx x1 (G:Int)) fun H=>some<|.next<|h_ h<|byteI H)) x1.length 0 0) (el (fun h=>some<|b_8 h 256)<|fun I=>some I)
def e_D (n:Nat)(x1:List UInt8)(x2:Int)(x3:UInt8):Option ((List UInt8)×Int×Bool) :=
 bd (α:=Bool) (if (decide<|x2<0)=true then some true else some (decide<|(x1.length:Int)<x2)) (fun I=>if I=true then some (([]:List UInt8),x2,false) else bd (a_5 (σ:=(List UInt8)×Int) (ρ:=(List UInt8)×Int×Bool) (un2 fun G h=>if (decide<|h<(x1.length:Int))=true then bd (idx x1 h) fun J=>if ((byteI J)==(byteI x3))=true then some (.ret (G,h_ h 1,true)) else bd (idx x1 h) fun L=>bd (α:=Sum Int<|Out ((List UInt8)×Int)<|(List UInt8)×Int×Bool) (if ((byteI L)==(byteI (92:UInt8)))=true then if ((h_ h 1)==(x1.length:Int))=true then some (.inr<|.brk (G,h_ h 1)) else some (.inl<|h_ h 1) else some (.inl h)) (el (fun H=>bd (idx x1 H) fun O=>bd (psh G O) fun V=>some<|.next (V,h_ H 1)) some) else some (.brk (G,h))) n (([]:List UInt8),x2)) (el (un2 fun G h=>some (([]:List UInt8),x2,false))<|fun W=>some W))
structure e_E where
 impl_checker_value:S_->Int->Int->Option (B_×Int)
 impl_checker_array:S_->a_->Int->Option (B_×Int)
 impl_checker_choice:S_->a_->Int->Option (B_×Int)
 impl_checker_option:S_->a_->Int->Option (B_×Int)
 impl_checker_checked:S_->a_->Int->Option (B_×Int)
def f_S (n:Nat)(rec:e_E)(x1:S_)(x2:Int)(x3:Int):Option (B_×Int) :=
 bd (idx x1.d.rules x2) fun h=>if (h.kind==1)=true then bd3 (d_s x1 x2 x3) fun al W Y=>some (W,Y) else if (h.kind==2)=true then bd (f_R (⟨(⟨x1.d.rules⟩:g_),x1.b,h_ x1.applied 1⟩:S_) h x3) fun a0=>some (a0,h_ x1.applied 1) else if (h.kind==3)=true then bd (c_Q (⟨(⟨x1.d.rules⟩:g_),x1.b,h_ x1.applied 1⟩:S_) x3 h.size) fun a1=>some (a1,h_ x1.applied 1) else if (h.kind==4)=true then bd (idx h.kids 0) fun a2=>bd3 (d_s (⟨(⟨x1.d.rules⟩:g_),x1.b,h_ x1.applied 1⟩:S_) a2 x3) fun a3 H I=>if (H.code != 0)=true then some (H,I) else bd (c_Q (⟨(⟨x1.d.rules⟩:g_),x1.b,I⟩:S_) H.at_ a3) fun a4=>some (a4,I) else if (h.kind==5)=true then bd2 (rec.impl_checker_array (⟨(⟨x1.d.rules⟩:g_),x1.b,h_ x1.applied 1⟩:S_) h x3) fun a5 a6=>some (a5,a6) else if (h.kind==6)=true then bd (u_ (σ:=Int×Int×Int) (ρ:=B_×Int) (fun a7=>un3 fun J L O=>bd (idx h.kids (a7:Int)) fun a8=>bd2 (rec.impl_checker_value (⟨(⟨x1.d.rules⟩:g_),x1.b,J⟩:S_) a8 L) fun G V=>if (G.code != 0)=true then some (.brk (V,G.at_,G.code)) else some (.next (V,G.at_,G.code))) h.kids.length 0 (h_ x1.applied 1,x3,0)) (el (un3 fun J L O=>some ((⟨L,O⟩:B_),J))<|fun a9=>some a9) else if (h.kind==7)=true then bd2 (rec.impl_checker_choice (⟨(⟨x1.d.rules⟩:g_),x1.b,h_ x1.applied 1⟩:S_) h x3) fun aa ab=>some (aa,ab) else if (h.kind==8)=true then bd2 (rec.impl_checker_option (⟨(⟨x1.d.rules⟩:g_),x1.b,h_ x1.applied 1⟩:S_) h x3) fun ad ae=>some (ad,ae) else if (h.kind==9)=true then bd2 (rec.impl_checker_checked (⟨(⟨x1.d.rules⟩:g_),x1.b,h_ x1.applied 1⟩:S_) h x3) fun af ah=>some (af,ah) else bd (idx h.bytes 0) fun ai=>bd3 (e_D n x1.b x3 ai) fun am aj ak=>if (!ak)=true then some ((⟨x3,1⟩:B_),h_ x1.applied 1) else some ((⟨aj,0⟩:B_),h_ x1.applied 1)
def f_T (n:Nat)(rec:e_E)(x1:S_)(x2:a_)(x3:Int):Option (B_×Int) :=
 bd (idx x2.kids 0) fun W=>bd3 (d_s x1 W x3) fun L J O=>bd (α:=Bool) (if (J.code==0)=true then some (decide<|40<L) else some false) (fun Y=>if Y=true then some ((⟨x3,6⟩:B_),O) else bd (a_5 (σ:=Int×Int×Int×Int) (ρ:=B_×Int) (un4 fun h G H I=>bd (α:=Bool) (if (decide<|0<h)=true then some (I==0) else some false) (fun a0=>if a0=true then bd (idx x2.kids 1) fun a1=>bd2 (rec.impl_checker_value (⟨(⟨x1.d.rules⟩:g_),x1.b,G⟩:S_) a1 H) fun V a2=>some (.next (K_ h 1,a2,V.at_,V.code)) else some (.brk (h,G,H,I)))) n (L,O,J.at_,J.code)) (el (un4 fun h G H I=>some ((⟨H,I⟩:B_),G))<|fun a3=>some a3))
def f_U (n:Nat)(rec:e_E)(x1:S_)(x2:a_)(x3:Int):Option (B_×Int) :=
 bd (idx x2.kids 0) fun I=>bd3 (d_s x1 I x3) fun J h G=>if (h.code != 0)=true then some (h,G) else bd (u_ (σ:=Unit) (ρ:=B_×Int) (fun H=>(fun (_:Unit)=>bd (idx x2.tags (H:Int)) fun L=>if (L==J)=true then bd (idx x2.kids ((H+1:Nat):Int)) fun O=>bd2 (rec.impl_checker_value (⟨(⟨x1.d.rules⟩:g_),x1.b,G⟩:S_) O h.at_) fun V W=>some (.ret (V,W)) else some (.next ()))) x2.tags.length 0 ()) (el (fun (_:Unit)=>some ((⟨x3,3⟩:B_),G))<|fun Y=>some Y)
def f_V (n:Nat)(rec:e_E)(x1:S_)(x2:a_)(x3:Int):Option (B_×Int) :=
 bd (c_Q x1 x3 1) fun h=>bd (α:=Bool) (if (h.code != 0)=true then some true else bd (idx x1.b x3) fun G=>some<|(byteI G)==(byteI (0:UInt8))) (fun H=>if H=true then some (h,x1.applied) else bd (idx x1.b x3) fun I=>if (decide<|(byteI (1:UInt8))<(byteI I))=true then some ((⟨x3,4⟩:B_),x1.applied) else bd (idx x2.kids 0) fun J=>bd2 (rec.impl_checker_value x1 J h.at_) fun L O=>some (L,O))
def f_W (n:Nat)(rec:e_E)(x1:S_)(x2:a_)(x3:Int):Option (B_×Int) :=
 bd (idx x2.kids 0) fun I=>bd2 (rec.impl_checker_value x1 I x3) fun h G=>if (h.code != 0)=true then some (h,G) else bd (c_Q (⟨(⟨x1.d.rules⟩:g_),x1.b,G⟩:S_) h.at_ 1) fun H=>bd (α:=Bool) (if (H.code==0)=true then bd (idx x1.b h.at_) fun J=>bd (slc x1.b x3 h.at_) fun L=>bd (d_t L) fun O=>some ((byteI J) != O) else some false) (fun V=>if V=true then some ((⟨h.at_,5⟩:B_),G) else some (H,G))
def a_h:Nat->e_E
 | 0=>⟨fun _ _ _=>none,fun _ _ _=>none,fun _ _ _=>none,fun _ _ _=>none,fun _ _ _=>none⟩
 | n+1=>⟨f_S n<|a_h n,f_T n<|a_h n,f_U n<|a_h n,f_V n<|a_h n,f_W n<|a_h n⟩
def l_N (n:Nat):=(a_h n).impl_checker_value
def c_9 (n:Nat)(x1:g_)(x2:Int)(x3:List UInt8)(x4:Int):Option (Int×Int) :=
 bd (α:=Bool) (bd (d_Y n x1 x2) fun G=>if (!G)=true then some true else if (decide<|x4<0)=true then some true else if (decide<|(x3.length:Int)<x4)=true then some true else some (decide<|400<(x3.length:Int))) (fun H=>if H=true then some (0,8) else bd2 (l_N n (⟨(⟨x1.rules⟩:g_),x3,0⟩:S_) x2 x4) fun h I=>some (h.at_,h.code))
def c_S (n:Nat)(x1:a_N)(x2:Int):Option (Bool×Int) :=
 bd2 (c_9 n (⟨x1.d.rules⟩:g_) x2 x1.b x1.at_) fun h G=>some (G==0,h)
def e_F (n:Nat)(x1:a_N)(x2:Int):Option (Int×Bool×Int) :=
 bd2 (c_S n x1 x2) fun G h=>if (!G)=true then some (0,false,h) else bd (slc x1.b x1.at_ h) fun H=>bd (idx x1.d.rules x2) fun I=>bd (c_R H I.little) fun J=>some (J,true,h)
def f_X (n:Nat)(x1:a_N)(x2:a_)(x3:Str):Option (Bool×Int×Int) :=
 bd2 (e_C x3) fun h O=>bd (idx x2.kids 0) fun V=>bd3 (e_F n x1 V) fun G W H=>bd (α:=Bool) (if (!O)=true then some true else if (!W)=true then some true else if (decide<|40<G)=true then some true else some (decide<|G<=h)) (fun Y=>if Y=true then some (false,x1.rule,H) else bd (a_5 (σ:=Int×Int) (ρ:=Bool×Int×Int) (un2 fun I J=>if (decide<|0<I)=true then bd (idx x2.kids 1) fun a0=>bd2 (c_S n (⟨(⟨x1.d.rules⟩:g_),x1.b,x1.rule,J⟩:a_N) a0) fun a1 L=>if (!a1)=true then some (.ret (false,x1.rule,L)) else some (.next (K_ I 1,L)) else bd (idx x2.kids 1) fun a2=>some<|.ret (true,a2,J)) n (h,H)) (el (fun _=>none)<|fun a3=>some a3))
def f_Y (n:Nat)(x1:a_N)(x2:a_)(x3:Str):Option (Bool×Int×Int) :=
 bd (u_ (σ:=Int) (ρ:=Bool×Int×Int) (fun G=>(fun h=>bd (idx x2.names (G:Int)) fun I=>if (I.b==x3.b)=true then bd (idx x2.kids (G:Int)) fun J=>some (.ret (true,J,h)) else bd (α:=Bool×Int) (bd (d_X x2.names x3) fun L=>if (!L)=true then some (true,h) else bd (idx x2.kids (G:Int)) fun O=>bd2 (c_S n (⟨(⟨x1.d.rules⟩:g_),x1.b,x1.rule,h⟩:a_N) O) fun V W=>some (!V,W)) (un2 fun Y H=>if Y=true then some (.ret (false,x1.rule,H)) else some (.next H)))) x2.names.length 0 x1.at_) (el (fun h=>some (false,x1.rule,h))<|fun a0=>some a0)
def h_w (x1:Int)(x2:Int):Option Bool :=
 some (x1==x2)
def f_Z (x1:List Int)(G:Int):Option Int :=
 bd (u_ (σ:=Unit) (ρ:=Int) (fun h=>(fun (_:Unit)=>bd (idx x1 (h:Int)) fun H=>bd (h_w H G) fun I=>if I=true then some (.ret (h:Int)) else some (.next ()))) x1.length 0 ()) (el (fun (_:Unit)=>some (-1))<|fun J=>some J)
def g_0 (n:Nat)(x1:a_N)(x2:a_):Option (Bool×Int×Int) :=
 bd (idx x2.kids 0) fun H=>bd3 (e_F n x1 H) fun I J h=>bd (f_Z x2.tags I) fun G=>bd (α:=Bool) (if (!J)=true then some true else some (decide<|G<0)) (fun L=>if L=true then some (false,x1.rule,h) else bd (idx x2.kids<|h_ G 1) fun O=>some (true,O,h))
def e_G (n:Nat)(x1:a_N)(x2:Str):Option (Bool×Int×Int) :=
 bd (idx x1.d.rules x1.rule) fun h=>if (h.kind==5)=true then bd3 (f_X n x1 h x2) fun G H I=>some (G,H,I) else if (h.kind==6)=true then bd3 (f_Y n x1 h x2) fun J L O=>some (J,L,O) else bd (α:=Bool) (if (h.kind==7)=true then some (x2.b==(⟨[42]⟩:Str).b) else some false) (fun V=>if V=true then bd3 (g_0 n x1 h) fun W Y a0=>some (W,Y,a0) else bd (α:=Bool) (if (h.kind==8)=true then some (x2.b==(⟨[63]⟩:Str).b) else some false) (fun a1=>bd (α:=Sum Int<|Bool×Int×Int) (if a1=true then bd (α:=Bool) (if (decide<|(x1.b.length:Int)<=x1.at_)=true then some true else bd (idx x1.b x1.at_) fun a2=>some<|(byteI a2) != (byteI (1:UInt8))) (fun a3=>if a3=true then some (.inr (false,x1.rule,x1.at_)) else some (.inl<|h_ x1.at_ 1)) else bd (α:=Bool) (if (h.kind==9)=true then some (x2.b==(⟨[43]⟩:Str).b) else some false) (fun a4=>if a4=true then some (.inl x1.at_) else some (.inr (false,x1.rule,x1.at_))))<|el (fun a5=>bd (idx h.kids 0) fun a6=>some (true,a6,a5)) some))
def b_l (x1:Int)(x2:Int):Option (Option<|Int×Int) :=
 some (some (x1,x2))
def d_u (x1:a_e)(x2:Int)(x3:Int):Option ((List UInt8)×(Option<|Int×Int)) :=
 if (decide<|(K_ (x1.b.length:Int) x2)<x3)=true then bd (b_l x2 1) fun h=>some (([]:List UInt8),h) else bd (slc x1.b x2<|h_ x2 x3) fun G=>some (G,none)
def d_v (x1:a_e)(x2:Int)(x3:Int):Option (Int×Int×(Option<|Int×Int)) :=
 bd (idx x1.d.rules x2) fun h=>bd2 (d_u x1 x3 h.size) fun H G=>if G.isSome=true then some (0,x3,G) else bd (c_R H h.little) fun I=>some (I,h_ x3 h.size,none)
def g_1 (x1:a_e)(x2:a_)(x3:Int):Option (Int×(Option<|Int×Int)) :=
 bd (u_ (σ:=Unit) (ρ:=Int×(Option<|Int×Int)) (fun h=>(fun (_:Unit)=>bd (idx x2.bytes (h:Int)) fun G=>if (decide<|(x1.b.length:Int)<=(h_ x3 (h:Int)))=true then bd (b_l x3 1) fun H=>some (.ret (x3,H)) else bd (idx x1.b<|h_ x3 (h:Int)) fun I=>if ((byteI I) != (byteI G))=true then bd (b_l (h_ x3 (h:Int)) 2) fun J=>some (.ret (x3,J)) else some (.next ()))) x2.bytes.length 0 ()) (el (fun (_:Unit)=>some (h_ x3 (x2.bytes.length:Int),none))<|fun L=>some L)
def e_H (x1:a_e)(x2:Int)(x3:Int):Option (Val×Int×(Option<|Int×Int)) :=
 bd2 (d_u x1 x2 x3) fun G h=>if h.isSome=true then some ((⟨0,([]:List UInt8),([]:List Val)⟩:Val),x2,h) else bd (app ([]:List UInt8) G) fun H=>some ((⟨0,H,([]:List Val)⟩:Val),h_ x2 x3,none)
structure d_Z where
 impl_fileReader_value:a_e->Int->Int->Option (Val×Int×(Option<|Int×Int))
 impl_fileReader_array:a_e->a_->Int->Option (Val×Int×(Option<|Int×Int))
 impl_fileReader_items:a_e->Val->(List Int)->Int->Option (Val×Int×(Option<|Int×Int))
 impl_fileReader_choice:a_e->a_->Int->Option (Val×Int×(Option<|Int×Int))
 impl_fileReader_option:a_e->a_->Int->Option (Val×Int×(Option<|Int×Int))
 impl_fileReader_checked:a_e->a_->Int->Option (Val×Int×(Option<|Int×Int))
def g_2 (n:Nat)(rec:d_Z)(x1:a_e)(x2:Int)(x3:Int):Option (Val×Int×(Option<|Int×Int)) :=
 bd (idx x1.d.rules x2) fun h=>if (h.kind==1)=true then bd3 (d_v x1 x2 x3) fun H I J=>some ((⟨H,([]:List UInt8),([]:List Val)⟩:Val),I,J) else if (h.kind==2)=true then bd2 (g_1 x1 h x3) fun L O=>some ((⟨0,([]:List UInt8),([]:List Val)⟩:Val),L,O) else if (h.kind==3)=true then bd3 (e_H x1 x3 h.size) fun V W Y=>some (V,W,Y) else if (h.kind==4)=true then bd (idx h.kids 0) fun a0=>bd3 (d_v x1 a0 x3) fun a1 a2 G=>if G.isSome=true then some ((⟨0,([]:List UInt8),([]:List Val)⟩:Val),x3,G) else bd3 (e_H x1 a2 a1) fun a3 a4 a5=>some (a3,a4,a5) else if (h.kind==5)=true then bd3 (rec.impl_fileReader_array x1 h x3) fun a6 a7 a8=>some (a6,a7,a8) else if (h.kind==6)=true then bd3 (rec.impl_fileReader_items x1 (⟨0,([]:List UInt8),([]:List Val)⟩:Val) h.kids x3) fun a9 aa ab=>some (a9,aa,ab) else if (h.kind==7)=true then bd3 (rec.impl_fileReader_choice x1 h x3) fun ad ae af=>some (ad,ae,af) else if (h.kind==8)=true then bd3 (rec.impl_fileReader_option x1 h x3) fun ah ai aj=>some (ah,ai,aj) else if (h.kind==9)=true then bd3 (rec.impl_fileReader_checked x1 h x3) fun ak al am=>some (ak,al,am) else bd (idx h.bytes 0) fun an=>bd3 (e_D n x1.b x3 an) fun ao ap aq=>if (!aq)=true then bd (b_l x3 1) fun ar=>some ((⟨0,([]:List UInt8),([]:List Val)⟩:Val),x3,ar) else some ((⟨0,ao,([]:List Val)⟩:Val),ap,none)
def g_6 (n:Nat)(rec:d_Z)(x1:a_e)(x2:a_)(x3:Int):Option (Val×Int×(Option<|Int×Int)) :=
 bd (idx x2.kids 0) fun J=>bd3 (d_v x1 J x3) fun G L H=>if H.isSome=true then some ((⟨0,([]:List UInt8),([]:List Val)⟩:Val),x3,H) else if (decide<|40<G)=true then bd (b_l x3 6) fun O=>some ((⟨0,([]:List UInt8),([]:List Val)⟩:Val),x3,O) else bd (mk0 0 G) fun I=>bd (u_ (σ:=List Int) (ρ:=Val×Int×(Option<|Int×Int)) (fun V=>(fun h=>bd (idx x2.kids 1) fun W=>bd (upd h (V:Int) W) fun Y=>some<|.next Y)) I.length 0 I)<|el (fun h=>bd3 (rec.impl_fileReader_items x1 (⟨0,([]:List UInt8),([]:List Val)⟩:Val) h L) fun a0 a1 a2=>some (a0,a1,a2))<|fun a3=>some a3
def g_7 (n:Nat)(rec:d_Z)(x1:a_e)(x2:Val)(x3:List Int)(x4:Int):Option (Val×Int×(Option<|Int×Int)) :=
 bd (u_ (σ:=Int×(List Val)) (ρ:=Val×Int×(Option<|Int×Int)) (fun I=>un2 fun h G=>bd (idx x3 (I:Int)) fun J=>bd3 (rec.impl_fileReader_value x1 J h) fun L O H=>if H.isSome=true then some (.ret ((⟨0,([]:List UInt8),([]:List Val)⟩:Val),h,H)) else bd (psh G L) fun V=>some<|.next (O,V)) x3.length 0 (x4,x2.items)) (el (un2 fun h G=>some ((⟨x2.number,x2.bytes,G⟩:Val),h,none))<|fun W=>some W)
def g_8 (n:Nat)(rec:d_Z)(x1:a_e)(x2:a_)(x3:Int):Option (Val×Int×(Option<|Int×Int)) :=
 bd (idx x2.kids 0) fun I=>bd3 (d_v x1 I x3) fun G J H=>if H.isSome=true then some ((⟨0,([]:List UInt8),([]:List Val)⟩:Val),x3,H) else bd (u_ (σ:=Unit) (ρ:=Val×Int×(Option<|Int×Int)) (fun h=>(fun (_:Unit)=>bd (idx x2.tags (h:Int)) fun L=>if (L==G)=true then bd (slc x2.kids ((h+1:Nat):Int)<|h_ (h:Int) 2) fun O=>bd3 (rec.impl_fileReader_items x1 (⟨G,([]:List UInt8),([]:List Val)⟩:Val) O J) fun V W Y=>some (.ret (V,W,Y)) else some (.next ()))) x2.tags.length 0 ()) (el (fun (_:Unit)=>bd (b_l x3 3) fun a0=>some ((⟨0,([]:List UInt8),([]:List Val)⟩:Val),x3,a0))<|fun a1=>some a1)
def g_a (n:Nat)(rec:d_Z)(x1:a_e)(x2:a_)(x3:Int):Option (Val×Int×(Option<|Int×Int)) :=
 bd2 (d_u x1 x3 1) fun h G=>if G.isSome=true then some ((⟨0,([]:List UInt8),([]:List Val)⟩:Val),x3,G) else bd (idx h 0) fun H=>if (decide<|(byteI (1:UInt8))<(byteI H))=true then bd (b_l x3 4) fun I=>some ((⟨0,([]:List UInt8),([]:List Val)⟩:Val),x3,I) else bd (idx h 0) fun J=>if ((byteI J)==(byteI (0:UInt8)))=true then some ((⟨0,([]:List UInt8),([]:List Val)⟩:Val),h_ x3 1,none) else bd3 (rec.impl_fileReader_items x1 (⟨0,([]:List UInt8),([]:List Val)⟩:Val) x2.kids<|h_ x3 1) fun L O V=>some (L,O,V)
def g_b (n:Nat)(rec:d_Z)(x1:a_e)(x2:a_)(x3:Int):Option (Val×Int×(Option<|Int×Int)) :=
 bd3 (rec.impl_fileReader_items x1 (⟨0,([]:List UInt8),([]:List Val)⟩:Val) x2.kids x3) fun I h G=>if G.isSome=true then some ((⟨0,([]:List UInt8),([]:List Val)⟩:Val),x3,G) else bd2 (d_u x1 h 1) fun J H=>if H.isSome=true then some ((⟨0,([]:List UInt8),([]:List Val)⟩:Val),x3,H) else bd (idx J 0) fun L=>bd (slc x1.b x3 h) fun O=>bd (d_t O) fun V=>if ((byteI L) != V)=true then bd (b_l h 5) fun W=>some ((⟨0,([]:List UInt8),([]:List Val)⟩:Val),x3,W) else some (I,h_ h 1,none)
def a_1:Nat->d_Z
 | 0=>⟨fun _ _ _=>none,fun _ _ _=>none,fun _ _ _ _=>none,fun _ _ _=>none,fun _ _ _=>none,fun _ _ _=>none⟩
 | n+1=>⟨g_2 n<|a_1 n,g_6 n<|a_1 n,g_7 n<|a_1 n,g_8 n<|a_1 n,g_a n<|a_1 n,g_b n<|a_1 n⟩
def h_x (n:Nat):=(a_1 n).impl_fileReader_value
def e_0 (n:Nat):=(a_1 n).impl_fileReader_items
def g_c (n:Nat)(x1:g_)(x2:Int)(x3:List UInt8)(x4:Int):Option (Val×Int×Int) :=
 bd (α:=Bool) (bd (d_Y n x1 x2) fun G=>if (!G)=true then some true else if (decide<|x4<0)=true then some true else if (decide<|(x3.length:Int)<x4)=true then some true else some (decide<|400<(x3.length:Int))) (fun H=>if H=true then some ((⟨0,([]:List UInt8),([]:List Val)⟩:Val),0,8) else bd3 (h_x n (⟨(⟨x1.rules⟩:g_),x3⟩:a_e) x2 x4) fun I J h=>if h.isSome=true then (bd2 h fun L O=>some ((⟨0,([]:List UInt8),([]:List Val)⟩:Val),L,O)) else some (I,J,0))
def g_d (n:Nat)(x1:g_)(x2:List UInt8):Option (Val×Int×Int) :=
 bd (α:=Int×(List UInt8)×(List Val)×Int×Int) (bd (c_P x1) fun I=>bd3 (g_c n x1 I x2 0) fun h J L=>some (h.number,h.bytes,h.items,J,L)) (un5 fun O V W G H=>bd (α:=Bool) (if (H==0)=true then some (decide<|G<(x2.length:Int)) else some false) (fun Y=>if Y=true then some ((⟨0,([]:List UInt8),([]:List Val)⟩:Val),G,7) else some ((⟨O,V,W⟩:Val),G,H)))
def e_I (n:Nat)(x1:g_)(x2:List UInt8):Option Bool :=
 bd3 (g_d n x1 x2) fun G H h=>some<|h==0
def c_T (x1:List UInt8)(x2:List UInt8):Option Bool :=
 if ((x1.length:Int) != (x2.length:Int))=true then some false else bd (u_ (σ:=Unit) (ρ:=Bool) (fun h=>(fun (_:Unit)=>bd (idx x1 (h:Int)) fun G=>bd (idx x2 (h:Int)) fun H=>if ((byteI G) != (byteI H))=true then some (.ret false) else some (.next ()))) x1.length 0 ()) (el (fun (_:Unit)=>some true)<|fun I=>some I)
def g_e (x1:List Str)(x2:List Str):Option Bool :=
 if ((x1.length:Int) != (x2.length:Int))=true then some false else bd (u_ (σ:=Unit) (ρ:=Bool) (fun h=>(fun (_:Unit)=>bd (idx x1 (h:Int)) fun G=>bd (idx x2 (h:Int)) fun H=>if (G.b != H.b)=true then some (.ret false) else some (.next ()))) x1.length 0 ()) (el (fun (_:Unit)=>some true)<|fun I=>some I)
def e_J (x1:List Int)(x2:List Int):Option Bool :=
 if ((x1.length:Int) != (x2.length:Int))=true then some false else bd (u_ (σ:=Unit) (ρ:=Bool) (fun h=>(fun (_:Unit)=>bd (idx x1 (h:Int)) fun G=>bd (idx x2 (h:Int)) fun H=>if (G != H)=true then some (.ret false) else some (.next ()))) x1.length 0 ()) (el (fun (_:Unit)=>some true)<|fun I=>some I)
def g_f (x1:a_)(x2:a_):Option Bool :=
 if (x1.name.b != x2.name.b)=true then some false else if (x1.kind != x2.kind)=true then some false else if (x1.size != x2.size)=true then some false else if (x1.little != x2.little)=true then some false else bd (c_T x1.bytes x2.bytes) fun h=>if (!h)=true then some false else bd (g_e x1.names x2.names) fun G=>if (!G)=true then some false else bd (e_J x1.tags x2.tags) fun H=>if (!H)=true then some false else bd (e_J x1.kids x2.kids) fun I=>if (!I)=true then some false else some true
def h_y (x1:List a_)(x2:List a_):Option Bool :=
 if ((x1.length:Int) != (x2.length:Int))=true then some false else bd (u_ (σ:=Unit) (ρ:=Bool) (fun h=>(fun (_:Unit)=>bd (idx x1 (h:Int)) fun G=>bd (idx x2 (h:Int)) fun H=>bd (g_f G H) fun I=>if (!I)=true then some (.ret false) else some (.next ()))) x1.length 0 ()) (el (fun (_:Unit)=>some true)<|fun J=>some J)
def g_g (x1:g_)(x2:g_):Option Bool :=
 bd (h_y x1.rules x2.rules) fun h=>if (!h)=true then some false else some true
def c_U (n:Nat)(x1:Int):Option Str :=
 if (decide<|x1<=0)=true then some (⟨[109,48]⟩:Str) else bd (a_5 (σ:=Int×Str) (ρ:=Str) (un2 fun h G=>if (decide<|0<h)=true then bd (cat (⟨[mkB (h_ 48<|b_8 h 10)]⟩:Str) G) fun H=>some (.next (d_b h 10,H)) else some (.brk (h,G))) n (x1,(⟨[]⟩:Str))) (el (un2 fun h G=>bd (cat (⟨[109]⟩:Str) G) fun I=>some I)<|fun J=>some J)
def c_V (n:Nat)(x1:List UInt8)(x2:Int):Option (Int×(List UInt8)) :=
 bd (a_5 (σ:=(List UInt8)×Int×Int) (ρ:=Int×(List UInt8)) (un3 fun h G H=>if (decide<|H<(h.length:Int))=true then bd (upd h H<|mkB G) fun I=>some (.next (I,h_ G 1,h_ H 1)) else some (.brk (h,G,H))) n (x1,x2,0)) (el (un3 fun h G H=>some (G,h))<|fun J=>some J)
def e_1 (n:Nat)(x1:List Str)(x2:Int):Option (Int×(List Str)) :=
 bd (a_5 (σ:=(List Str)×Int×Int) (ρ:=Int×(List Str)) (un3 fun h G H=>if (decide<|H<(h.length:Int))=true then bd (c_U n G) fun I=>bd (upd h H I) fun J=>some (.next (J,h_ G 1,h_ H 1)) else some (.brk (h,G,H))) n (x1,x2,0)) (el (un3 fun h G H=>some (G,h))<|fun L=>some L)
def c_s (n:Nat)(x1:List Int)(x2:Int):Option (Int×(List Int)) :=
 bd (a_5 (σ:=(List Int)×Int×Int) (ρ:=Int×(List Int)) (un3 fun h G H=>if (decide<|H<(h.length:Int))=true then bd (upd h H G) fun I=>some (.next (I,h_ G 1,h_ H 1)) else some (.brk (h,G,H))) n (x1,x2,0)) (el (un3 fun h G H=>some (G,h))<|fun J=>some J)
def g_h (n:Nat)(x1:List a_)(x2:Int):Option (Int×(List a_)) :=
 bd (a_5 (σ:=(List a_)×Int×Int) (ρ:=Int×(List a_)) (un3 fun a0 J G=>if (decide<|G<(a0.length:Int))=true then bd (c_U n J) fun a8=>bd (idx a0 G) fun O=>bd (upd a0 G (⟨a8,O.kind,O.size,O.little,O.bytes,O.names,O.tags,O.kids⟩:a_)) fun a4=>bd (idx a4 G) fun V=>bd (upd a4 G (⟨V.name,h_ J 1,V.size,V.little,V.bytes,V.names,V.tags,V.kids⟩:a_)) fun a5=>bd (idx a5 G) fun W=>bd (upd a5 G (⟨W.name,W.kind,h_ (h_ J 1) 1,W.little,W.bytes,W.names,W.tags,W.kids⟩:a_)) fun a6=>bd (idx a6 G) fun Y=>bd (upd a6 G (⟨Y.name,Y.kind,Y.size,(b_8 (h_ (h_ (h_ J 1) 1) 1) 3)==0,Y.bytes,Y.names,Y.tags,Y.kids⟩:a_)) fun a1=>bd (idx a1 G) fun h=>bd2 (c_V n h.bytes<|h_ (h_ (h_ (h_ J 1) 1) 1) 1) fun a9 a2=>bd (idx (a1.set (G).toNat (⟨h.name,h.kind,h.size,h.little,a2,h.names,h.tags,h.kids⟩:a_)) G) fun H=>bd2 (e_1 n H.names a9) fun aa a3=>bd (idx ((a1.set (G).toNat (⟨h.name,h.kind,h.size,h.little,a2,h.names,h.tags,h.kids⟩:a_)).set (G).toNat (⟨H.name,H.kind,H.size,H.little,H.bytes,a3,H.tags,H.kids⟩:a_)) G) fun I=>bd2 (c_s n I.tags aa) fun ab a7=>bd (idx (((a1.set (G).toNat (⟨h.name,h.kind,h.size,h.little,a2,h.names,h.tags,h.kids⟩:a_)).set (G).toNat (⟨H.name,H.kind,H.size,H.little,H.bytes,a3,H.tags,H.kids⟩:a_)).set (G).toNat (⟨I.name,I.kind,I.size,I.little,I.bytes,I.names,a7,I.kids⟩:a_)) G) fun L=>bd2 (c_s n L.kids ab) fun ad ae=>some (.next ((((a1.set (G).toNat (⟨h.name,h.kind,h.size,h.little,a2,h.names,h.tags,h.kids⟩:a_)).set (G).toNat (⟨H.name,H.kind,H.size,H.little,H.bytes,a3,H.tags,H.kids⟩:a_)).set (G).toNat (⟨I.name,I.kind,I.size,I.little,I.bytes,I.names,a7,I.kids⟩:a_)).set (G).toNat (⟨L.name,L.kind,L.size,L.little,L.bytes,L.names,L.tags,ae⟩:a_),ad,h_ G 1)) else some (.brk (a0,J,G))) n (x1,x2,0)) (el (un3 fun a0 J G=>some (J,a0))<|fun af=>some af)
def g_i (n:Nat)(x1:g_)(x2:Int):Option (Int×(List a_)) :=
 bd2 (g_h n x1.rules x2) fun h G=>some (h,G)
def e_K (x1:List UInt8)(x2:Int):Option Int :=
 bd (u_ (σ:=Int) (ρ:=Int) (fun G=>(fun h=>bd (idx x1 (G:Int)) fun H=>if ((byteI H) != (byteI<|mkB h))=true then some (.ret (-1)) else some (.next<|h_ h 1))) x1.length 0 x2) (el (fun h=>some h)<|fun I=>some I)
def h_z (x1:Int):Option Str :=
 bd (i_9 x1) fun h=>some h
def d_w (n:Nat)(x1:g_)(x2:Int)(x3:Int):Option Str :=
 bd (α:=Bool) (bd (d_Y n x1 x2) fun G=>if (!G)=true then some true else some (decide<|x3<0)) (fun H=>if H=true then some (⟨[]⟩:Str) else bd (idx x1.rules x2) fun h=>if (h.kind==5)=true then bd (h_z x3) fun I=>some I else bd (α:=Bool) (if (h.kind==6)=true then some (decide<|x3<(h.names.length:Int)) else some false) (fun J=>if J=true then bd (idx h.names x3) fun L=>some L else if (decide<|0<x3)=true then some (⟨[]⟩:Str) else if (h.kind==7)=true then some (⟨[42]⟩:Str) else if (h.kind==8)=true then some (⟨[63]⟩:Str) else if (h.kind==9)=true then some (⟨[43]⟩:Str) else some (⟨[]⟩:Str)))
end Go.Vw
namespace Go.Vw
def c_H (n:Nat)(x1:g_)(x2:List UInt8):Option (Int×Int) :=
 bd3 (e_z n x1 x2) fun H h G=>some (h,G)
def e_e (n:Nat)(x1:g_)(x2:List UInt8)(x3:Int):Option UInt8 :=
 bd (u_ (σ:=Unit) (ρ:=UInt8) (fun h=>(fun (_:Unit)=>bd (app ([]:List UInt8) x2) fun G=>bd (upd G x3<|mkB (h:Int)) fun H=>bd2 (c_H n x1 H) fun I J=>bd (α:=Bool) (if (I != x3)=true then some true else some (J != 5)) (fun L=>if L=true then some (.ret<|mkB (h:Int)) else some (.next ())))) ((256:Int).toNat) 0 ()) (el (fun (_:Unit)=>bd (idx x2 x3) fun O=>some O)<|fun V=>some V)
def e_f (n:Nat)(x1:g_)(x2:List UInt8):Option ((List UInt8)×Bool) :=
 bd (app ([]:List UInt8) x2) fun H=>bd (u_ (σ:=List UInt8) (ρ:=(List UInt8)×Bool) (fun Y=>(fun h=>bd2 (c_H n x1 h) fun G I=>if (I != 5)=true then some (.brk h) else bd (e_e n x1 h G) fun J=>bd (upd h G J) fun L=>some<|.next L)) ((400:Int).toNat) 0 H) (el (fun h=>bd (e_A n x1 h) fun O=>if (!O)=true then bd (app ([]:List UInt8) x2) fun V=>some (V,false) else some (h,true))<|fun W=>some W)
def f_4 (n:Nat)(x1:g_)(x2:List UInt8):Option (Int×Int) :=
 bd (c_P x1) fun H=>bd2 (c_9 n x1 H x2 0) fun h G=>bd (α:=Bool) (if (!decide (((⟨h,G⟩:B_):B_)=((⟨(x2.length:Int),0⟩:B_):B_)))=true then some (G==0) else some false) (fun I=>if I=true then some (h,7) else some (h,G))
def g_Q (x1:Int)(x2:Int):Option Bool :=
 some (x1==x2)
def f_5 (x1:List Int)(G:Int):Option Int :=
 bd (u_ (σ:=Unit) (ρ:=Int) (fun h=>(fun (_:Unit)=>bd (idx x1 (h:Int)) fun H=>bd (g_Q H G) fun I=>if I=true then some (.ret (h:Int)) else some (.next ()))) x1.length 0 ()) (el (fun (_:Unit)=>some (-1))<|fun J=>some J)
structure f_6 where
 impl_tracer_part:b_3->Str->Int->Int->Option (Str×Int)
 impl_tracer_kids:b_3->Str->Int->(List Int)->Int->Option (Int×Bool×Str×Int)
def d_H (n:Nat)(rec:f_6)(x1:b_3)(x2:Str)(x3:Int)(x4:Int):Option (Str×Int) :=
 bd (idx x1.d.rules x3) fun h=>bd (α:=Bool) (if (h.kind==6)=true then some (h.kind==6) else some (h.kind==9)) (fun O=>bd (α:=Sum (Str×Int)<|Str×Int) (if O=true then bd4 (rec.impl_tracer_kids (⟨(⟨x1.d.rules⟩:g_),x1.b,x2,x3⟩:b_3) x2 x3 h.kids x4) fun az aA V W=>some (.inl (V,W)) else bd (α:=Sum (Str×Int)<|Sum (Str×Int)<|Str×Int) (if (h.kind==8)=true then bd (α:=Bool) (if (decide<|x4<(x1.b.length:Int))=true then bd (idx x1.b x4) fun Y=>some ((byteI Y)==(byteI (1:UInt8))) else some false) (fun a0=>bd (α:=Str×Int) (if a0=true then bd4 (rec.impl_tracer_kids (⟨(⟨x1.d.rules⟩:g_),x1.b,x2,x3⟩:b_3) x2 x3 h.kids<|h_ x4 1) fun aB aC a1 a2=>some (a1,a2) else some (x2,x3))<|un2 fun a3 a4=>some<|.inl (a3,a4)) else bd (α:=Bool) (if (h.kind==5)=true then some (h.kind==5) else some (h.kind==7)) (fun a5=>bd (α:=Sum (Str×Int)<|Sum (Str×Int)<|Sum (Str×Int)<|Str×Int) (if a5=true then bd (idx h.kids 0) fun a6=>bd2 (c_9 n (⟨x1.d.rules⟩:g_) a6 x1.b x4) fun G a7=>if (a7 != 0)=true then some (.inr<|.inr<|.inr (x2,x3)) else bd (α:=Int) (bd (slc x1.b x4 G) fun a8=>bd (idx h.kids 0) fun a9=>bd (idx x1.d.rules a9) fun aa=>bd (c_R a8 aa.little) fun ab=>some ab) (fun H=>if (h.kind==7)=true then bd (f_5 h.tags H) fun I=>bd (α:=Str×Int) (if (decide<|0<=I)=true then bd (slc h.kids (h_ I 1)<|h_ I 2) fun ad=>bd4 (rec.impl_tracer_kids (⟨(⟨x1.d.rules⟩:g_),x1.b,x2,x3⟩:b_3) x2 x3 ad G) fun aD aE ae af=>some (ae,af) else some (x2,x3)) (un2 fun ah ai=>some<|.inr<|.inr<|.inr (ah,ai)) else bd (α:=Sum (Str×Int)<|Sum (Str×Int)<|Sum (Str×Int)<|Sum (Str×Int)<|Str×Int) (if (decide<|H<=40)=true then bd (mk0 0 H) fun L=>bd (u_ (σ:=List Int) (ρ:=Str×Int) (fun aj=>(fun J=>bd (idx h.kids 1) fun ak=>bd (upd J (aj:Int) ak) fun al=>some<|.next al)) L.length 0 L) (el (fun J=>bd4 (rec.impl_tracer_kids (⟨(⟨x1.d.rules⟩:g_),x1.b,x2,x3⟩:b_3) x2 x3 J G) fun aF aG am an=>some<|.inl (am,an))<|fun ao=>some<|.inr<|.inr<|.inr<|.inr ao) else some (.inl (x2,x3))) (el (un2 fun ap aq=>some<|.inl (ap,aq)) some)) else some (.inl (x2,x3)))<|el (un2 fun ar au=>some<|.inl (ar,au)) some)) (el (un2 fun av aw=>some<|.inl (av,aw)) some))<|el (un2 fun ax ay=>some (ax,ay)) some)
def c_I (n:Nat)(rec:f_6)(x1:b_3)(x2:Str)(x3:Int)(x4:List Int)(x5:Int):Option (Int×Bool×Str×Int) :=
 bd (u_ (σ:=Int) (ρ:=Int×Bool×Str×Int) (fun G=>(fun h=>bd (idx x4 (G:Int)) fun H=>bd2 (c_9 n (⟨x1.d.rules⟩:g_) H x1.b h) fun I J=>if (J != 0)=true then bd (cat x2 (⟨[47]⟩:Str)) fun L=>bd (d_w n (⟨x1.d.rules⟩:g_) x3 (G:Int)) fun O=>bd (cat L O) fun V=>bd2 (rec.impl_tracer_part x1 V H h) fun W Y=>some (.ret (h,false,W,Y)) else some (.next I))) x4.length 0 x5) (el (fun h=>some (h,true,x1.path,x1.rule))<|fun a0=>some a0)
def a_t:Nat->f_6
 | 0=>⟨fun _ _ _ _=>none,fun _ _ _ _ _=>none⟩
 | n+1=>⟨d_H n<|a_t n,c_I n<|a_t n⟩
def g_R (n:Nat):=(a_t n).impl_tracer_part
def e_g (n:Nat)(x1:g_)(x2:List UInt8):Option e_2 :=
 bd2 (f_4 n x1 x2) fun G h=>bd (c_P x1) fun H=>bd (α:=Str×Int) (if (h==8)=true then some ((⟨[]⟩:Str),(-1)) else bd (α:=Bool) (if (h==0)=true then some (h==0) else some (h==7)) (fun I=>bd (α:=Str×Int) (if I=true then some ((⟨[]⟩:Str),H) else bd (c_P x1) fun J=>bd2 (g_R n (⟨(⟨x1.rules⟩:g_),x2,(⟨[]⟩:Str),0⟩:b_3) (⟨[]⟩:Str) J 0) fun L O=>some (L,O))<|un2 fun V W=>some (V,W)))<|un2 fun Y a0=>some (⟨h,G,Y,a0⟩:e_2)
def e_h (n:Nat)(x1:g_)(x2:List UInt8)(x3:Str):Option (Int×Bool) :=
 bd2 (f_L n x3) fun I J=>bd (c_P x1) fun L=>bd (u_ (σ:=Bool×Int×Int) (ρ:=Int×Bool) (fun O=>un3 fun G H h=>bd (idx I (O:Int)) fun V=>bd (α:=Bool×Int×Int) (if G=true then bd3 (e_G n (⟨(⟨x1.rules⟩:g_),x2,H,h⟩:a_N) V) fun W Y a0=>some (W,Y,a0) else some (false,H,h))<|un3 fun a1 a2 a3=>some<|.next (a1,a2,a3)) I.length 0 (J,L,0))<|el (un3 fun G H h=>some (h,G))<|fun a4=>some a4
def d_I (n:Nat)(x1:g_)(x2:List UInt8):Option ((List UInt8)×Bool) :=
 bd (app ([]:List UInt8) x2) fun H=>bd (u_ (σ:=List UInt8) (ρ:=(List UInt8)×Bool) (fun a2=>(fun h=>bd (e_g n x1 h) fun G=>if (G.code != 5)=true then some (.brk h) else bd2 (e_h n x1 h G.path) fun I J=>bd (α:=Int) (if J=true then some I else some 0)<|fun L=>bd (slc h L G.position) fun O=>bd (d_t O) fun V=>bd (upd h G.position<|mkB V) fun W=>some<|.next W)) ((400:Int).toNat) 0 H) (el (fun h=>bd (e_I n x1 h) fun Y=>if Y=true then some (h,true) else bd (app ([]:List UInt8) x2) fun a0=>some (a0,false))<|fun a1=>some a1)
def f_7 (n:Nat)(x1:g_)(x2:List UInt8):Option Bool :=
 if (decide<|1048576<(x2.length:Int))=true then some true else bd (f_q x1 1048576) fun a0=>if (decide<|a0<0)=true then some true else bd (d_o x1) fun a1=>bd (c_O x2) fun a2=>bd2 (e_f n a1 a2) fun h G=>bd (d_o x1) fun H=>bd (c_O x2) fun I=>bd2 (d_I n H I) fun J L=>bd (α:=Bool) (bd (c_T J h) fun a3=>if (!a3)=true then some true else some (L != G)) (fun a4=>if a4=true then some false else bd (d_o x1) fun a5=>bd (g_g H a5) fun a6=>if (!a6)=true then some false else bd (c_O x2) fun a7=>bd (c_T I a7) fun a8=>if (!a8)=true then some false else bd2 (g_i n H 1) fun a9 al=>bd2 (c_V n I a9) fun aa am=>bd (α:=Bool) (if (decide<|aa<0)=true then some true else bd (c_T J h) fun ab=>if (!ab)=true then some true else some (L != G)) (fun ad=>if ad=true then some false else bd2 (c_V n J 1) fun O V=>bd (e_K V 1) fun W=>if (decide<|W<0)=true then some false else if (W != O)=true then some false else bd (d_o x1) fun ae=>bd (c_O x2) fun af=>bd2 (d_I n ae af) fun ah ai=>bd (α:=Bool) (bd (c_T ah h) fun aj=>if (!aj)=true then some true else some (ai != G)) (fun ak=>if ak=true then some false else bd (e_K V 1) fun Y=>if (decide<|Y<0)=true then some false else if (Y != O)=true then some false else some true)))
end Go.Vw
namespace Go.Vw
open Go.RowKit Dat
theorem m_7 {P:Program}{o:Oper}{a:Act}{w:World}{K K' K1 K2:Act->World->Prop}{Q:Exit->Act->World->Prop}(h:∀a w,K a w->K' a w)(hh:o.wp P a w K (Exit.then K1 Q)):o.wp P a w K' (Exit.then K2 Q):=by
 unfold Oper.wp at *
 generalize (execOp a.eval o).run P w=r at *
 cases r with
 | ok n w' =>
  cases n <;> simp only [Oper.upon] at hh ⊢ <;>
   first
    | exact h _ _ hh
    | exact Calls.mono hh (fun e w'' he=>by cases e <;> first | exact h _ _ he | exact he)
    | exact Rows.mono hh<|fun _ _ he=>h _ _ he
 | halt x w'=>cases x <;> simp only [Oper.upon] at hh ⊢ <;> exact hh
theorem h_F {P:Program}{ops:Array Oper}{K K1:Act->World->Prop}{Q:Exit->Act->World->Prop}{l2:List Oper}(hk:∀a w,K1 a w->wpList P ops (Exit.then K Q) l2 a w):∀(l1:List Oper)(a:Act)(w:World),wpList P ops (Exit.then K1 Q) l1 a w->wpList P ops (Exit.then K Q) (l1++l2) a w
 | [],a,w,h=>hk a w h
 | o::l1,a,w,h=>by
  rw [List.cons_append]
  unfold wpList at h ⊢
  split at h
  ·rename_i hw
   rw [if_pos hw]
   rcases h with h | ⟨h1,h2⟩
   ·exact .inl<|m_7 (h_F hk l1) h
   ·exact .inr ⟨h1,h2⟩
  ·rename_i hw
   rw [if_neg hw]
   exact h_F hk l1 _ _ h
section
variable {P:Program}{N:Nat}{ops:Array Oper}{K:Act->World->Prop}{Q:Exit->Act->World->Prop}{e:Env}{w:World}{l:List Oper}
theorem m_8 (k:Nat)(l:List Oper):l.take k++l.drop k=l:=List.take_append_drop k l
theorem c_u (d:Nat)(u:Bool)(k:Nat)(h1:WL P N ops (fun a w'=>w'=w/\Sat N ((d,vB u)::e) a) Q (l.take k) e w)(h2:WL P N ops K Q (l.drop k) ((d,vB u)::e) w):WL P N ops K Q l e w:=fun a ha=>by
 rw [← m_8 k l]
 exact h_F (fun a w' ⟨hw,hs⟩=>by subst hw;exact h2 a hs) _ a w<|h1 a ha
variable {d:Nat}{u c:Bool}
def h_G (n:Nat)(e:Env):Bool:=(e.take n).all fun p=>(e.drop n).all fun q=>!Nat.beq p.1 q.1
theorem j_C:∀{e:Env}{t:Nat},(∀q∈e,Nat.beq t q.1=false)->q_ e t=none
 | [],_,_=>rfl
 | (k,v)::e,t,h=>by
  have h1:=h (k,v) List.mem_cons_self;have h2:Nat.beq k t=false:=by rw [← Bool.not_eq_true,Nat.beq_eq] at *;exact fun h=>h1 h.symm
  rw [q_,h2]
  exact j_C fun q hq=>h q<|List.mem_cons_of_mem _ hq
theorem j_D:∀{G H:Env}{t:Nat},(∀p∈G,Nat.beq p.1 t=false)->q_ (G++H) t=q_ H t
 | [],_,_,_=>rfl
 | (k,v)::G,H,t,h=>by
  rw [List.cons_append,q_,h (k,v) List.mem_cons_self]
  exact j_D fun p hp=>h p<|List.mem_cons_of_mem _ hp
theorem m_9 {n:Nat}{e:Env}(h:h_G n e=true){t:Nat}{v:Value}(hl:q_ (e.drop n) t=some v):q_ e t=some v:=by
 have:q_ (e.take n++e.drop n) t=q_ (e.drop n) t:=by
  refine j_D fun p hp=>?_
  cases hb:Nat.beq p.1 t with
  | false=>rfl
  | true =>
   exfalso
   have hpt:p.1=t:=Nat.eq_of_beq_eq_true hb;have h1:=List.all_eq_true.1 h p hp
   rw [List.all_eq_true] at h1
   have:=j_C (e:=e.drop n) (t:=t) fun q hq=>by
    have:=h1 q hq
    rw [Bool.not_eq_true'] at this
    rw [← hpt];exact this
   rw [this] at hl;cases hl
 rw [List.take_append_drop] at this
 rw [this];exact hl
theorem m_a (n:Nat){e':Env}{a:Act}(hu:c=u)(h:q_ e' d=some (vB c))(hf:h_G n e'=true)(he:e'.drop n=e)(ha:Sat N e' a):Sat N ((d,vB u)::e) a:=by
 subst hu;subst he;refine ⟨ha.defers,ha.size,fun t v ht=>?_⟩
 simp only [q_] at ht
 by_cases hk:d=t
 ·subst hk;have hb:Nat.beq d d=true:=by simp
  rw [hb] at ht
  simp only [cond_true,Option.some.injEq] at ht
  subst ht;exact ha.at_ d _ h
 ·have hb:Nat.beq d t=false:=by rw [← Bool.not_eq_true,Nat.beq_eq];exact hk
  rw [hb] at ht
  simp only [cond_false] at ht
  exact ha.at_ t v<|m_9 hf ht
theorem WLq (n:Nat){e':Env}(hu:some c=some u)(h:q_ e' d=some (vB c))(hf:h_G n e'=true)(he:e'.drop n=e):WL P N ops (fun a w'=>w'=w/\Sat N ((d,vB u)::e) a) Q [] e' w :=
 a_M fun _ ha=>⟨rfl,m_a n (Option.some.inj hu) h hf he ha⟩
end
end Go.Vw
universe u
namespace Go.Vw
open Go.RowKit Dat
section
variable {P:Program}{N:Nat}{ops:Array Oper}{K:Act->World->Prop}{Q:Exit->Act->World->Prop}{e:Env}{w:World}{rest:List Oper}
variable {d:Nat}{op:Op}{ty:TypeId}{pos:String}{aft:Array Edge}{x:Operand}
theorem Wn {y:Code}{Q':Exit->Act->World->Prop}(h:WC P N y K Q e w):WL P N ops (KC P y K Q) Q' [] e w:=a_M<|WC.of_KC h
theorem Ws {id:Nat}{l:List Oper}{y:Code}(h:WL P N l.toArray (KC P y K Q) Q l e w):WC P N (.seq (.region id l.toArray false) y) K Q e w:=a_L<|b_7 h
theorem Wk {y:Code}{Q':Exit->Act->World->Prop}(h:WC P N y K Q e w):WC P N .skip (KC P y K Q) Q' e w:=a_q<|WC.of_KC h
theorem c_r {b:Bool}{o:Option Value}{v:Value}(h:(bif b then o else none)=some v):b=true/\o=some v:=by
 cases b
 ·cases h
 ·exact ⟨rfl,h⟩
theorem Rm {v:Value}(h:(bif Nat.blt d N then ev e x else none)=some v)(k:WL P N ops K Q rest ((d,v)::e) w):WL P N ops K Q (⟨some d,.move x,ty,pos,aft,none⟩::rest) e w:=R (c_r h).1 (b_y (c_r h).2) k
theorem Ra {v:Value}(h:(bif Nat.blt d N then ev e x else none)=some v)(k:WL P N ops K Q rest ((d,v)::e) w):WL P N ops K Q (⟨some d,.assign x,ty,pos,aft,none⟩::rest) e w:=R (c_r h).1 (d_c (c_r h).2) k
section
variable {j:Nat}{want b:Bool}
theorem bind_some {o:Option Nat}{v:Value}(h:o.bind (q_ e)=some v):∃gd,o=some gd/\q_ e gd=some v:=by
 cases o with
 | none=>cases h
 | some g=>exact ⟨g,rfl,h⟩
theorem Rh {v:Value}(h:(bif Nat.blt d N then ((ops[j]?).bind (·.dst)).bind (q_ e) else none)=some (.bool b))(hw:b=want)(hr:Rd noX P N ⟨some d,op,ty,pos,aft,some (j,want)⟩ e w v)(k:WL P N ops K Q rest ((d,v)::e) w):WL P N ops K Q (⟨some d,op,ty,pos,aft,some (j,want)⟩::rest) e w:=by
 obtain ⟨gd,h1,h2⟩:=bind_some (c_r h).2;exact Rg h1 h2 hw (c_r h).1 hr k
theorem Nh (h:(bif Nat.blt d N then ((ops[j]?).bind (·.dst)).bind (q_ e) else none)=some (.bool b))(hw:b = !want)(k:WL P N ops K Q rest ((d,undef)::e) w):WL P N ops K Q (⟨some d,op,ty,pos,aft,some (j,want)⟩::rest) e w:=by
 obtain ⟨gd,h1,h2⟩:=bind_some (c_r h).2;exact Ng h1 h2 hw (c_r h).1 k
theorem Nv (h:(bif Nat.blt d N then ((ops[j]?).bind (·.dst)).bind (q_ e) else none)=some undef)(k:WL P N ops K Q rest ((d,undef)::e) w):WL P N ops K Q (⟨some d,op,ty,pos,aft,some (j,want)⟩::rest) e w:=by
 obtain ⟨gd,h1,h2⟩:=bind_some (c_r h).2;exact Nu h1 h2 (c_r h).1 k
end
end
theorem goF {P:Program}{f:FuncId}{G:Func}{c:Code}{N:Nat}{args:List Value}{w:World}{R:Value->World->Prop}(hf:P.funcs[f]? = some G)(hb:G.body=some c)(hN:G.ntmps=N)(hle:args.length<=N)(h:∀fn:Func,fn.results=G.results->WC P N c (b_x P fn R) (QR P fn R) (d_a 0 args) w):j_ P f args w R:=i_Q hf hb hN hle<|h G rfl
theorem goG {P:Program}{f:FuncId}{G:Func}{c:Code}{N:Nat}{args:List Value}{w:World}{R:Value->World->Prop}(hf:P.funcs[f]? = some G)(hb:G.body=some c)(hN:G.ntmps=N)(hle:Nat.ble args.length N=true)(h:∀fn:Func,fn.results=G.results->WC P N c (b_x P fn R) (QR P fn R) (d_a 0 args) w):j_ P f args w R:=goF hf hb hN (Nat.le_of_ble_eq_true hle) h
section
variable {P:Program}{N:Nat}{e:Env}{w:World}{ty:TypeId}{pos:String}{aft:Array Edge}{gd:Option (Nat×Bool)}{x y:Operand}
theorem fs0 {T n g o:Nat}{v:Value}{cur cur':List Value}(hs:∀w,(sizeOf T).run P w = .ok n w)(hp:ev e x=some (.pointer<|some ⟨g,o,none⟩))(hv:ev e y=some v)(hB:Blk w g cur)(hn:v.cells.size=n)
  (ho:Nat.ble (o+n) cur.length=true) (h1:v.cells.toList.all Value.oneCell'=true) (hcur:cur.take o++v.cells.toList++cur.drop (o+v.cells.toList.length)=cur') :
  Ef P N ⟨none,.store T x y,ty,pos,aft,gd⟩ e w (fun _ w'=>Blk w' g cur'/\Chg (· = g) w w'):=b_d hs hp hv hB hn (Nat.le_of_ble_eq_true ho) (b_t h1) hcur
end
abbrev rQ {ρ:Type}(P:Program)(fn:Func)(Q:ρ->Value->World->Prop)(r:ρ)(ex:Exit)(a:Act)(w:World):Prop:=ex = .ret/\b_x P fn (Q r) a w
abbrev _root_.Go.World.z (w:World):Nat:=w.heap.size
abbrev sl (a:Option Addr)(n c:Nat):Value:=.slice a n c
abbrev pt (g:Nat):Value:=.pointer<|some ⟨g,0,none⟩
abbrev Bw (a b:World):Prop:=Below a.heap.size a b
abbrev vR (x:a_)(a1:Option Addr)(h G:Nat)(a2:Option Addr)(H I:Nat)(J:Option Addr)(L O:Nat)(V:Option Addr)(W Y:Nat):List Value:=[x.name.v,vI x.kind,vI x.size,vB x.little,.slice a1 h G,.slice a2 H I,.slice J L O,.slice V W Y]
theorem z {α:Sort u}{a:α}:a=a:=rfl
theorem Sat.k {N:Nat}{e e':Env}{a:Act}(h:Sat N e a)(hs:sub e e'):Sat N e' a:=h.weaken hs
theorem fid {a:Prop}(h:a):a:=h
theorem lt_ {a b c:Nat}(h:a<=b)(h':b<=c):a<=c:=Nat.le_trans h h'
theorem lr {a:Nat}:a<=a:=Nat.le_refl a
theorem lb {a b:Nat}(h:Nat.ble a b=true):a<=b:=Nat.le_of_ble_eq_true h
theorem ii {x:Int}(h:(decide (-9223372036854775808<=x) && decide (x<=9223372036854775807))=true):inI x:=inI_of x h
section
variable {S T A M:List Nat}{m n g k:Nat}
theorem j_v (h:m<=n):∀k∈[n],m<=k:=f_ h
theorem mno (h:∀ k∈T,k<m)(h':m<=n):∀k∈[n],k∉T:=f_<|fun ht=>absurd (h n ht)<|Nat.not_lt.2 h'
theorem mnr (h:∀ k∈T,k<m):∀k∈[m],k∉T:=mno h lr
theorem mm1 (h:g<m)(h':m<=n):∀k∈[n],k∉[g]:=mno (f_ h) h'
theorem mmr (h:g<m):∀k∈[m],k∉[g]:=mno (f_ h) lr
theorem mor (h:m<=n):∀k∈[n],k∈M∨m<=k:=f_<|.inr h
theorem k_ (hs:∀k∈S,n<=k)(h:m<=n):∀k∈S,m<=k:=or0 hs<|b_O h
theorem p_ (hs:∀k∈S,n<=k)(h:g<m)(h':m<=n):∀k∈S,k∉[g]:=or0 hs<|a_x (f_ h) h'
theorem a_G (hs:∀k∈S,n<=k)(h:∀ k∈T,k<m)(h':m<=n):∀k∈S,k∉T:=or0 hs<|a_x h h'
theorem a_Q (hs:∀k∈S,k∈A∨n<=k)(ha:∀k∈A,m<=k)(h:m<=n):∀k∈S,m<=k:=or1 hs ha<|b_O h
theorem b_J (hs:∀k∈S,k∈A∨n<=k)(ha:∀k∈A,k∉T)(h:∀ k∈T,k<m)(h':m<=n):∀k∈S,k∉T:=or1 hs ha<|a_x h h'
theorem djs (h:∀k∈S,k∉[g]):g∉S:=fun hg=>h g hg<|List.mem_singleton.2 rfl
theorem atp {p:Nat->Prop}(h:∀k∈[g],p k):p g:=h g<|List.mem_singleton.2 rfl
theorem nd0:([]++[]:List Nat).Nodup:=g_p a_f a_f all_nil
theorem al0 {p:Nat->Prop}:∀k∈([]++[]:List Nat),p k:=g_o all_nil all_nil
end
section
variable {e e':Env}{v1 v2 v3 v4 v5 v6 v7 v8 v9:Value}{k1 k2 k3 k4 k5 k6 k7 k8 k9:Nat}
theorem s1 (h1:q_ e k1=some v1):sub e [(k1,v1)]:=⟨h1,trivial⟩
theorem s2 (h1:q_ e k1=some v1)(h2:q_ e k2=some v2):sub e [(k1,v1),(k2,v2)]:=⟨h1,s1 h2⟩
theorem s3 (h1:q_ e k1=some v1)(h2:q_ e k2=some v2)(h3:q_ e k3=some v3):sub e [(k1,v1),(k2,v2),(k3,v3)]:=⟨h1,s2 h2 h3⟩
theorem s4 (h1:q_ e k1=some v1)(h2:q_ e k2=some v2)(h3:q_ e k3=some v3)(h4:q_ e k4=some v4):sub e [(k1,v1),(k2,v2),(k3,v3),(k4,v4)]:=⟨h1,s3 h2 h3 h4⟩
theorem s5 (h1:q_ e k1=some v1)(h2:q_ e k2=some v2)(h3:q_ e k3=some v3)(h4:q_ e k4=some v4)(h5:q_ e k5=some v5):sub e [(k1,v1),(k2,v2),(k3,v3),(k4,v4),(k5,v5)]:=⟨h1,s4 h2 h3 h4 h5⟩
theorem s6 (h1:q_ e k1=some v1)(h2:q_ e k2=some v2)(h3:q_ e k3=some v3)(h4:q_ e k4=some v4)(h5:q_ e k5=some v5)(h6:q_ e k6=some v6):sub e [(k1,v1),(k2,v2),(k3,v3),(k4,v4),(k5,v5),(k6,v6)]:=⟨h1,s5 h2 h3 h4 h5 h6⟩
theorem s7 (h1:q_ e k1=some v1)(h2:q_ e k2=some v2)(h3:q_ e k3=some v3)(h4:q_ e k4=some v4)(h5:q_ e k5=some v5)(h6:q_ e k6=some v6)(h:q_ e k7=some v7):sub e [(k1,v1),(k2,v2),(k3,v3),(k4,v4),(k5,v5),(k6,v6),(k7,v7)]:=⟨h1,s6 h2 h3 h4 h5 h6 h⟩
theorem s8 (h1:q_ e k1=some v1)(h2:q_ e k2=some v2)(h3:q_ e k3=some v3)(h4:q_ e k4=some v4)(h5:q_ e k5=some v5)(h6:q_ e k6=some v6)(h:q_ e k7=some v7)(G:q_ e k8=some v8):sub e [(k1,v1),(k2,v2),(k3,v3),(k4,v4),(k5,v5),(k6,v6),(k7,v7),(k8,v8)]:=⟨h1,s7 h2 h3 h4 h5 h6 h G⟩
theorem s9 (h1:q_ e k1=some v1)(h2:q_ e k2=some v2)(h3:q_ e k3=some v3)(h4:q_ e k4=some v4)(h5:q_ e k5=some v5)(h6:q_ e k6=some v6)(h:q_ e k7=some v7)(G:q_ e k8=some v8)(H:q_ e k9=some v9):sub e [(k1,v1),(k2,v2),(k3,v3),(k4,v4),(k5,v5),(k6,v6),(k7,v7),(k8,v8),(k9,v9)]:=⟨h1,s8 h2 h3 h4 h5 h6 h G H⟩
end
theorem onL {α:Type}[Dat α]{w:World}:b_ w [] (.slice none 0 0) ([]:List α):=m_v w
theorem _root_.Go.RowKit.Below.s {b:Nat}{w w':World}(h:Below b w w'):w.heap.size<=w'.heap.size:=h.size
theorem Chg.s {X:Nat->Prop}{w w':World}(h:Chg X w w'):w.heap.size<=w'.heap.size:=h.size
abbrev Chg.e:=@Chg.ext
abbrev repS.e:=@repS.ext
abbrev repS.c:=@repS.chg
abbrev b_.e:=@b_.ext
abbrev b_.c:=@b_.chg
abbrev N_.e:=@N_.ext
abbrev N_.c:=@N_.chg
abbrev a_m.e:=@a_m.ext
abbrev a_m.c:=@a_m.chg
abbrev a_Y.e:=@a_Y.ext
abbrev a_Y.c:=@a_Y.chg
abbrev GlW.e:=@GlW.ext
abbrev GlW.c:=@GlW.chg
abbrev b_o.e:=@b_o.ext
abbrev b_o.c:=@b_o.chg
abbrev Blk.e:=@Blk.ext
abbrev Blk.c:=@Blk.chg
abbrev b_c.e:=@b_c.ext
abbrev b_c.c:=@b_c.chg
section
variable {P:Program}{N:Nat}{ops:Array Oper}{K:Act->World->Prop}{Q:Exit->Act->World->Prop}{e:Env}{w:World}{rest:List Oper}{X:Nat->Prop}{T:Nat}{p:a_r}
variable {d d':Nat}{ty ty':TypeId}{pos pos':String}{aft aft':Array Edge}{x x':Operand}{v v':Value}
theorem Rw {c:Code}{Q':Exit->Act->World->Prop}(h:(bif Nat.blt d N then ev e x else none)=some v)(k:WC P N c K Q ((d,v)::e) w):WL P N ops (KC P c K Q) Q' [⟨some d,.assign x,ty,pos,aft,none⟩] e w:=Ra h<|Wn k
theorem Wm {id:Nat}{l:List Oper}{c:Code}(h:(bif Nat.blt d N then ev e x else none)=some v)(k:WL P N (⟨some d,.move x,ty,pos,aft,none⟩::l).toArray (KC P c K Q) Q l ((d,v)::e) w):WC P N (.seq (.region id (⟨some d,.move x,ty,pos,aft,none⟩::l).toArray false) c) K Q e w:=Ws<|Rm h k
theorem RM (h:(bif Nat.blt d N then ev e x else none)=some v)(h':(bif Nat.blt d' N then ev ((d,v)::e) x' else none)=some v')(k:WL P N ops K Q rest ((d',v')::(d,v)::e) w):WL P N ops K Q (⟨some d,.move x,ty,pos,aft,none⟩::⟨some d',.move x',ty',pos',aft',none⟩::rest) e w:=Rm h<|Rm h' k
theorem RA (h:(bif Nat.blt d N then ev e x else none)=some v)(h':(bif Nat.blt d' N then ev ((d,v)::e) x' else none)=some v')(k:WL P N ops K Q rest ((d',v')::(d,v)::e) w):WL P N ops K Q (⟨some d,.assign x,ty,pos,aft,none⟩::⟨some d',.assign x',ty',pos',aft',none⟩::rest) e w:=Ra h<|Ra h' k
theorem dM {i:Nat}(ho:ops[i]? = some ⟨some d,.move x,ty,pos,aft,none⟩)(hf:Nat.blt d N=true)(h:ev e x=some v)(k:PR X P N ops T K p ((d,v)::e) w):PR X P N ops T K (.rd i p) e w:=dR ho hf (b_y h) k
theorem dQ {i:Nat}(ho:ops[i]? = some ⟨some d,.assign x,ty,pos,aft,none⟩)(hf:Nat.blt d N=true)(h:ev e x=some v)(k:PR X P N ops T K p ((d,v)::e) w):PR X P N ops T K (.rd i p) e w:=dR ho hf (d_c h) k
theorem Wx {y y':Code}{b:Bool}{Q':Exit->Act->World->Prop}(hc:ev e x=some (.bool b))(ht:b=true->WC P N y K Q e w)(hf:b=false->WC P N y' K Q e w):WL P N ops (KC P (.cond x y y') K Q) Q' [] e w:=Wn<|c_t hc ht hf
section
variable {t u i:Nat}{k:IntKind}{a b:Int}
theorem Rl (hf:Nat.blt d N=true)(h1:ev e x=some (.int k a))(h2:ev e x'=some (.int k b))(h:WL P N ops K Q rest ((d,vB<|decide<|a<b)::e) w):WL P N ops K Q (⟨some d,.binOp .lss t x x' u,ty,pos,aft,none⟩::rest) e w:=R hf (f_8 h1 h2) h
theorem Rq (hf:Nat.blt d N=true)(h1:ev e x=some (.int k a))(h2:ev e x'=some (.int k b))(h:WL P N ops K Q rest ((d,vB<|a==b)::e) w):WL P N ops K Q (⟨some d,.binOp .eql t x x' u,ty,pos,aft,none⟩::rest) e w:=R hf (g_Y h1 h2) h
theorem Rf {g o j:Nat}(hf:Nat.blt d N=true)(h1:Fld P t i j)(h2:ev e x=some (.pointer<|some ⟨g,o,none⟩))(h:WL P N ops K Q rest ((d,.pointer<|some ⟨g,o+j,none⟩)::e) w):WL P N ops K Q (⟨some d,.fieldAddr t x i,ty,pos,aft,none⟩::rest) e w:=R hf (g_S h1 h2) h
theorem Re {vs:Array Value}(hf:Nat.blt d N=true)(h1:ev e x=some (.tuple vs))(h2:vs[i]? = some v)(h:WL P N ops K Q rest ((d,v)::e) w):WL P N ops K Q (⟨some d,.extract x i,ty,pos,aft,none⟩::rest) e w:=R hf (g_T h1 h2) h
end
theorem l0 {t g o:Nat}{dst:Option Tmp}{gd:Option (Nat×Bool)}(hT:∀w,(isAgg t).run P w = .ok false w)(h:ev e x=some (.pointer<|some ⟨g,o,none⟩))(hc:w.cell? ⟨g,o,none⟩=some v):Rd noX P N ⟨dst,.load t x,ty,pos,aft,gd⟩ e w v:=c_3 hT h (fun h=>h) hc
def plA:Nat->Nat->List Nat->a_r
 | _,0,_=>.done
 | i,n+1,l=>bif l.elem i then .ef i (plA (i+1) n l) else .rd i (plA (i+1) n l)
abbrev pl_ (n:Nat)(l:List Nat):a_r:=plA 0 n l
end
end Go.Vw
namespace Go.Vw
open Go.RowKit Dat Go.ChangeShapes Go.WideShapes Go.ChangeAt
structure IsT (P:Program)(t:TypeId)(α:Type)[Dat α](L:α->Prop):Prop where
 rd:∀{H:Type}(enc:TypeId×Value->H)(W:World)(fuel:Nat)(cs:List Value)(x:DataW H×List MemPlace),DataW.trod enc P W 0 (fun _=>true) true fuel t cs=some x->(x.1.weights P t).all (· <= reachBytes)=true->∃v:α,rep W W.heap.size cs v/\L v
section
variable {P:Program}{t:TypeId}
theorem n_E (ht:P.underlying t=some (.int .i64)):IsT P t Int (fun _=>True):=⟨fun enc W fuel cs x h _=>by
 obtain ⟨n,rfl,_,hw⟩:=DataW.trod_int ht h;have:=bounds_i64 hw
 exact ⟨n,⟨_,rfl,rfl,by unfold inI;omega⟩,trivial⟩⟩
theorem n_F (ht:P.underlying t=some (.int .u8)):IsT P t UInt8 (fun _=>True):=⟨fun enc W fuel cs x h _=>by
 obtain ⟨n,rfl,_,hw⟩:=DataW.trod_int ht h;have hb:=bounds_u8 hw
 have e:n=byteI (UInt8.ofNat n.toNat):=by
  unfold byteI
  rw [UInt8.toNat_ofNat']
  omega
 refine ⟨UInt8.ofNat n.toNat,⟨_,rfl,?_⟩,trivial⟩
 show Value.int .u8 n=vU (byteI<|UInt8.ofNat n.toNat)
 rw [← e]⟩
theorem n_G (ht:P.underlying t=some .bool):IsT P t Bool (fun _=>True):=⟨fun enc W fuel cs x h _=>by
 obtain ⟨b,rfl,_⟩:=DataW.trod_bool ht h
 exact ⟨b,⟨_,rfl,rfl⟩,trivial⟩⟩
theorem n_H (ht:P.underlying t=some .string):IsT P t Str (fun s=>s.b.length<=LEN):=⟨fun enc W fuel cs x h hw=>by
 obtain ⟨s,rfl,rfl,_⟩:=DataW.trod_string ht h
 simp only [DataW.weights,List.all_cons,List.all_nil,Bool.and_true,decide_eq_true_eq] at hw
 have hr:reachBytes=140737488351232:=rfl;have hL:LEN=140737488355328:=rfl;have hl:s.data.toList.length<=LEN:=by omega
 exact ⟨⟨s.data.toList⟩,⟨_,rfl,by simp [Str.v],hl⟩,hl⟩⟩
theorem k_6 {H:Type}{e:TypeId}:∀{l:List (DataW H)}{d:DataW H},(DataW.weightsAll P e l).all (· <= reachBytes)=true->d∈l->(d.weights P e).all (· <= reachBytes)=true
 | [],_,_,h=>by cases h
 | y::l,d,hw,h=>by
  unfold DataW.weightsAll at hw
  rw [List.all_append,Bool.and_eq_true] at hw
  rcases List.mem_cons.1 h with rfl | h
  ·exact hw.1
  ·exact k_6 hw.2 h
theorem g_H {H:Type}:∀{ts:List TypeId}{l:List (DataW H)}{i:Nat}{t:TypeId}{d:DataW H},(DataW.weightsEach P ts l).all (· <= reachBytes)=true->ts[i]? = some t->l[i]? = some d->(d.weights P t).all (· <= reachBytes)=true
 | [],_,_,_,_,_,h,_=>by simp at h
 | _::_,[],_,_,_,_,_,h=>by simp at h
 | t::ts,y::l,i,t',d,hw,h1,h2=>by
  unfold DataW.weightsEach at hw
  rw [List.all_append,Bool.and_eq_true] at hw
  cases i with
  | zero=>simp at h1 h2;subst h1 h2;exact hw.1
  | succ i=>simp at h1 h2;exact g_H hw.2 h1 h2
theorem cells?_spec {w:World}{a:Addr}{n:Nat}{cs:List Value}(h:w.cells? 0 a n=some cs):cs.length=n/\∀j v,cs[j]? = some v->w.cell? (a.add j)=some v:=by
 unfold World.cells? at h
 rw [if_pos (Nat.zero_le _)] at h
 refine ⟨by simpa using mapM_some_length h,fun j v hv=>?_⟩
 have hj:j<n:=by
  have h1:=(List.getElem?_eq_some_iff.1 hv).1;have h2:=mapM_some_length h
  simp at h2
  omega
 have:=mapM_some_get h j j (by rw [List.getElem?_range hj])
 rw [this];exact hv
theorem n_I {w:World}{a:Addr}{v:Value}(h:w.cell? a=some v):a.spot=none:=by
 unfold World.cell? at h
 split at h
 ·cases hs:a.spot with
  | none=>rfl
  | some x=>rw [hs] at h;simp at h
 ·cases h
theorem k_7 {α:Type}(Q:Nat->α->Prop):∀(len:Nat),(∀i,i<len->∃v,Q i v)->∃l:List α,l.length=len/\∀(i:Nat)(x:α),l[i]? = some x->Q i x
 | 0,_=>⟨[],rfl,fun i x h=>by simp at h⟩
 | n+1,h=>by
  obtain ⟨l,hl,hq⟩:=k_7 Q n<|fun i hi=>h i (by omega);obtain ⟨v,hv⟩:=h n (by omega);refine ⟨l++[v],by simp [hl],fun i x hx=>?_⟩
  by_cases hi:i<l.length
  ·rw [List.getElem?_append_left hi] at hx;exact hq i x hx
  ·rw [List.getElem?_append_right (by omega)] at hx
   have h1:=(List.getElem?_eq_some_iff.1 hx).1
   simp only [List.length_cons,List.length_nil] at h1
   have h2:i=n:=by omega
   subst h2
   rw [show i - l.length=0 by omega] at hx
   simp at hx
   exact hx ▸ hv
theorem g_I {α:Type}[Dat α]{L:α->Prop}{e:TypeId}(ht:P.underlying t=some (.slice e))(he:IsT P e α L)(hc:P.cellsOf e=sz α)(hb:1<=P.bytesOf e):IsT P t (List α) (fun l=>l.length<=LEN/\∀x∈l,L x):=⟨fun enc W fuel cs x h hw=>by
 have hr:reachBytes=140737488351232:=rfl;have hL:LEN=140737488355328:=rfl
 rcases DataW.trod_slice ht h with ⟨rfl,rfl⟩ | ⟨a,len,cap,elems,rest,n,_,rfl,rfl,_,hlc,_,hlen,hel,hsp,_⟩
 ·exact ⟨[],⟨_,rfl,none,0,rfl,Nat.le_refl _,Nat.zero_le _,fun _=>rfl,fun p hp=>by cases hp⟩,by simp,fun x hx=>by cases hx⟩
 ·obtain ⟨hrl,_⟩:=hsp rfl
  have hw':(elems.length+rest.length) * P.bytesOf e<=reachBytes/\(DataW.weightsAll P e<|elems.map (·.1)).all (· <= reachBytes)=true:=by
   unfold DataW.weights at hw
   rw [ht] at hw
   simp only [List.all_cons,List.all_append,Bool.and_eq_true,decide_eq_true_eq,List.length_map] at hw
   exact ⟨hw.1,hw.2.1⟩
  have hcap:cap<=LEN:=by
   have h1:elems.length+rest.length<=(elems.length+rest.length) * P.bytesOf e:=Nat.le_mul_of_pos_right _ hb
   omega
  have hone:∀i:Nat,i<len->∃v:α,a.spot=none/\a.block<W.heap.size/\(∃cs,N_ W a.block (a.off+i * sz α) cs/\rep W W.heap.size cs v)/\L v:=by
   intro i hi;have h1:=hel i hi;have hie:i<elems.length:=by omega
   rw [List.getElem?_eq_getElem hie] at h1
   cases hcs:W.cells? 0 (a.add<|i * P.cellsOf e) (P.cellsOf e) with
   | none=>rw [hcs] at h1;cases h1
   | some cs =>
    rw [hcs] at h1
    simp only [Option.bind_some] at h1
    obtain ⟨v,hv,hl⟩:=he.rd enc W n cs _ h1<|k_6 hw'.2<|List.mem_map_of_mem<|List.getElem_mem hie;obtain ⟨J,O⟩:=cells?_spec hcs;have hpos:0<cs.length:=by rw [J,hc];exact Dat.pos
    have hsp:a.spot=none:=by
     have G:=hel 0 (by omega)
     rw [List.getElem?_eq_getElem (show 0<elems.length by omega)] at G
     cases H:W.cells? 0 (a.add<|0 * P.cellsOf e) (P.cellsOf e) with
     | none=>rw [H] at G;cases G
     | some I =>
      obtain ⟨V,Y⟩:=cells?_spec H;have hpos0:0<I.length:=by rw [V,hc];exact Dat.pos
      have:=Y 0 I[0] (by rw [List.getElem?_eq_getElem hpos0]);have:=n_I this
      simpa [Addr.add] using this
    have ha:a=⟨a.block,a.off,none⟩:=by cases a;simp only at hsp;rw [hsp]
    have hcells:N_ W a.block (a.off+i * sz α) cs:=by
     intro j u hu;have:=O j u hu
     rw [ha,Addr.add_lit,Addr.add_lit,hc] at this
     exact this
    exact ⟨v,hsp,hcells.lt (by intro h;rw [h] at hpos;cases hpos),⟨cs,hcells,hv⟩,hl⟩
  obtain ⟨l,hll,hq⟩:=k_7 _ len hone;refine ⟨l,⟨_,rfl,some a,cap,by rw [hll],by omega,by omega,fun h=>(by cases h),fun p hp=>?_⟩,by omega,fun x hx=>?_⟩
  ·obtain rfl:=Option.some.inj hp;refine ⟨fun hne=>?_,fun hne=>?_,fun i x hx=>(hq i x hx).2.2.1⟩
   ·cases l with
    | nil=>exact absurd rfl hne
    | cons y l=>exact (hq 0 y rfl).1
   ·cases l with
    | nil=>exact absurd rfl hne
    | cons y l=>exact (hq 0 y rfl).2.1
  ·obtain ⟨i,hi⟩:=List.getElem?_of_mem hx
   exact (hq i x hi).2.2.2⟩
def cutC:Nat->List Nat->List Value->List (List Value)
 | _,[],_=>[]
 | o,n::r,cs=>(cs.drop o).take n::cutC (o+n) r cs
def i_N:List (List Value)->List Value
 | []=>[]
 | [p]=>p
 | p::q::r=>p++i_N (q::r)
theorem i_O:∀(ns:List Nat)(o:Nat)(cs:List Value),ns ≠ []->cs.length=o+ns.sum->i_N (cutC o ns cs)=cs.drop o
 | [],_,_,h,_=>absurd rfl h
 | [n],o,cs,_,h=>by
  show (cs.drop o).take n=_
  rw [List.take_of_length_le]
  simp at h ⊢;omega
 | n::m::r,o,cs,_,h=>by
  show (cs.drop o).take n++i_N (cutC (o+n) (m::r) cs)=_
  rw [i_O (m::r) (o+n) cs (by simp) (by simp at h ⊢;omega),← List.drop_drop,List.take_append_drop]
theorem k_8 {H:Type}{enc:TypeId×Value->H}{W:World}{fuel:Nat}{cs:List Value}{x:DataW H×List MemPlace}{fs:Array Field}(ht:P.underlying t=some (.struct fs))(h:DataW.trod enc P W 0 (fun _=>true) true fuel t cs=some x)(hw:(x.1.weights P t).all (· <= reachBytes)=true) :
  cs.length=P.cellsOf t/\∀(i:Nat)(f:Field),fs[i]? = some f->∀(α:Type)(_:Dat α)(L:α->Prop),IsT P f.type α L->∃v:α,rep W W.heap.size ((cs.drop f.offset).take (P.cellsOf f.type)) v/\L v:=by
 obtain ⟨xs,n,rfl,rfl,hl,hxl,hf⟩:=DataW.trod_struct ht h;refine ⟨hl,fun i f hi α _ L hα=>?_⟩;have h1:=hf i f hi;have hlt:=(Array.getElem?_eq_some_iff.1 hi).1
 rw [List.getElem?_eq_getElem (by omega)] at h1
 refine hα.rd enc W n _ _ h1 ?_;unfold DataW.weights at hw
 rw [ht] at hw
 refine g_H (i:=i) hw ?_ (by rw [List.getElem?_map,List.getElem?_eq_getElem (by omega)];rfl)
 rw [List.getElem?_map,Array.getElem?_toList,hi];rfl
structure OkW (P:Program)(W:World)(base:Nat)(t:TypeId)(v:Value):Prop where
 h:Value.okWide P W .any base t v
structure OkWs (P:Program)(W:World)(base:Nat)(ts:Array TypeId)(vs:Array Value):Prop where
 h:∀(j:Nat) t v,ts[j]? = some t->vs[j]? = some v->Value.okWide P W .any base t v
theorem OkWs.at {W:World}{base:Nat}{ts:Array TypeId}{vs:Array Value}(h:OkWs P W base ts vs)(j:Nat)(t:TypeId)(v:Value)(h1:ts[j]? = some t)(h2:vs[j]? = some v):OkW P W base t v:=⟨h.h j t v h1 h2⟩
theorem n_J {W:World}{base:Nat}{t:TypeId}{v:Value}{fs:Array Field}(ht:P.underlying t=some (.struct fs))(h:OkW P W base t v):∃cs,v = .agg cs/\cs.size=P.cellsOf t:=okWide_struct ht h.h
theorem n_K {W:World}{base:Nat}{t:TypeId}{v:Value}{e:TypeId}(ht:P.underlying t=some (.slice e))(h:OkW P W base t v):∃a n c,v = .slice a n c:=okWide_slice ht h.h
theorem k_9 {H:Type}{enc:TypeId×Value->H}(hl:laidOutB P=true){W W':World}(hb:Below W.heap.size W W'):∀(ts:List TypeId)(vs:List Value)(ds:List (DataW H))(ps:List MemPlace),(∀t∈ts,P.readableRec t=true/\t<P.types.size) ->
  DataW.TrodAll enc P W 0 (fun _=>true) true ts vs ds ps->(∀x∈ps,x.block<W.heap.size)->∀(sp:Nat->Bool),(∀b,b<W.heap.size->sp b=true)->DataW.TrodAll enc P W' 0 sp true ts vs ds ps
 | [],[],[],_,_,h,_,_,_=>h
 | t::ts,v::vs,d::ds,ps,hr,h,hlt,sp,hsp=>by
  obtain ⟨p,q,h1,h2,rfl⟩:=h;refine ⟨p,q,?_,k_9 hl hb ts vs ds q (fun t ht=>hr t<|List.mem_cons_of_mem _ ht) h2 (fun x hx=>hlt x<|List.mem_append_right _ hx) sp hsp,rfl⟩;have hlp:∀x∈p,x.block<W.heap.size:=fun x hx=>hlt x<|List.mem_append_left _ hx
  exact WideElems.Trod_stays hl (hr t List.mem_cons_self).1 (hr t List.mem_cons_self).2 h1 (fun x hx=>hb.same<|hlp x hx) (fun x hx=>hsp _<|hlp x hx)
 | [],_::_,_,_,_,h,_,_,_=>by cases h
 | [],[],_::_,_,_,h,_,_,_=>by cases h
 | _::_,[],_,_,_,h,_,_,_=>by cases h
 | _::_,_::_,[],_,_,h,_,_,_=>by cases h
theorem n_L {H:Type}{enc:TypeId×Value->H}{f:Func}{s:ChangeSpec}{apart fresh handsOn again:Bool}{W W':World}{args:Array Value}{ds gs:List (DataW H)}{before:List MemPlace}{tb:TypeId}(hl:laidOutB P=true)(hread:∀t∈f.params.toList,P.readableRec t=true/\t<P.types.size)
  (hb:Below W.heap.size W W') (hW:DataW.Whole enc P f.params.toList s.vars apart W args.toList ds gs before) (hres:f.resultTypes = #[tb]) (htb:P.underlying tb=some .bool) (hvars:s.vars=[]) (hfn:s.fn H (ds++gs)={ results:=[.lit (.bool true)],args:=ds }) :
  s.post enc P f apart fresh handsOn again W args (.bool true) W':=by
 have hlt:∀x∈before,x.block<W.heap.size:=fun p hp=>hW.lt p hp
 have hW':=hW;obtain ⟨p,q,hA,hV,rfl,hz,hn⟩:=hW
 rw [hvars] at hV
 obtain ⟨rfl,rfl⟩:=trodVars_none hV;have hA':=fun sp hsp=>k_9 hl hb _ _ _ _ hread hA (fun x hx=>hlt x (by simpa using hx)) sp hsp
 have hr:∀(b:Nat)(sp:Nat->Bool)(hd:Bool),DataW.TrodAll enc P W' b sp hd f.resultTypes.toList ((Value.bool true).resultList f.resultTypes.size) (s.fn H<|ds++[]).results []:=fun b sp hd=>by
  rw [hfn,hres];exact trodAll_cons_mk (shut_bool htb _) trodAll_mk0
 have hvs:∀sp:Nat->Bool,DataW.TrodVars enc P W' sp s.vars (s.fn H<|ds++[]).vars []:=fun sp=>by rw [hfn,hvars];rfl
 refine ⟨ds,[],p++[],[],p,[],hW',hr _ _ _,by rw [hfn];exact hA' _ (fun b hb=>by simpa using hb),hvs _,hb.frame _,fun _=>⟨?_,([.lit (.bool true)]:List (DataW H))++ds,[],([]++p)++[],⟨[]++p,[],?_,?_,rfl,?_,?_⟩,?_⟩⟩
 ·exact ok_one hres rfl<|okWide_bool_mk htb _
 ·have h1:=hr 0 (fun _=>true) true
  rw [hfn] at h1
  exact trodAll_append (hA' _<|fun _ _=>rfl) h1
 ·rw [hvars];rfl
 ·intro b off hp;have hp':MemPlace.cell b off∈p++[]:=by simpa using hp
  have:=hlt _ hp'
  rw [hb.frozen (p:=⟨b,off,none⟩) this]
  exact hz b off hp'
 ·intro ha;have:=hn ha;simpa using this
 ·intro x hx _;simpa using hx
end
end Go.Vw
namespace Go.Vw
open Go.RowKit Dat
theorem p_H {x y:Int}(h1 : -9223372036854775808<=x+y)(h2:x+y<=9223372036854775807):h_ x y=x+y:=by
 unfold h_;rw [IntKind.wrap_i64];omega
theorem a_W {x y:Int}(h1 : -9223372036854775808<=x - y)(h2:x - y<=9223372036854775807):K_ x y=x - y:=by
 unfold K_;rw [IntKind.wrap_i64];omega
theorem l_y {x y:Int}(h1 : -9223372036854775808<=x * y)(h2:x * y<=9223372036854775807):b_e x y=x * y:=by
 unfold b_e;rw [IntKind.wrap_i64];omega
theorem p_I {x y:Int}(h:0<=x)(hx:x<=9223372036854775807)(hy:0<y):d_b x y=x / y:=by
 unfold d_b
 rw [Int.tdiv_eq_ediv_of_nonneg h,IntKind.wrap_i64]
 have h1:=Int.ediv_nonneg h<|Int.le_of_lt hy;have h2:=Int.ediv_le_self y h
 omega
theorem j_p {x y:Int}(h:0<=x):b_8 x y=x % y:=by
 unfold b_8;exact Int.tmod_eq_emod_of_nonneg h
theorem p_J {a b:UInt8}:byteI a=byteI b ↔ a=b:=by
 unfold byteI
 constructor
 ·intro h;have:a.toNat=b.toNat:=by omega
  exact UInt8.toNat_inj.1 this
 ·rintro rfl;rfl
section
variable {α:Type}
theorem j_q {l:List α}{k:Nat}(h:k<l.length):idx l (k:Int)=some l[k]:=by rw [j_J];simp [h]
theorem h_k {l:List α}{i:Int}(G:0<=i)(h:i.toNat<l.length):idx l i=some l[i.toNat]:=by
 unfold idx;rw [if_pos G];simp [h]
theorem b_k {l:List α}(h:0<l.length):idx l 0=some l[0]:=j_q (k:=0) h
theorem f_m {l:List α}(h:1<l.length):idx l 1=some l[1]:=j_q (k:=1) h
theorem h_l {l:List α}{a b:Int}(h:0<=a)(h1:a<=b)(h2:b<=l.length):slc l a b=some ((l.take b.toNat).drop a.toNat):=by
 unfold slc;rw [if_pos ⟨h,h1,h2⟩]
theorem e_p {l:List α}{x:α}(h:l.length<LIM):psh l x=some (l++[x]):=by unfold psh;rw [if_pos h]
theorem h_m {l m:List α}(h:l.length+m.length<=LIM):app l m=some (l++m):=by unfold app;rw [if_pos h]
theorem e_q {s t:Str}(h:s.b.length+t.b.length<=LIM):cat s t=some ⟨s.b++t.b⟩:=by unfold cat;rw [if_pos h]
theorem b_I {l:List α}{k:Nat}{x:α}(h:k<l.length):upd l (k:Int) x=some (l.set k x):=by
 unfold upd;rw [if_pos ⟨by omega,by omega⟩];rfl
theorem h_n {z:α}{n:Nat}(h:n<=LIM):mk0 z (n:Int)=some (List.replicate n z):=by
 unfold mk0;rw [if_pos ⟨by omega,by omega⟩];simp
theorem l_z {z:α}{n:Int}(G:0<=n)(h:n<=LIM):mk0 z n=some (List.replicate n.toNat z):=by
 unfold mk0;rw [if_pos ⟨G,h⟩]
end
section
variable {σ ρ:Type}
theorem l_A {body:Nat->σ->Option (Out σ ρ)}(st:Nat->σ):∀n k,(∀j,k<=j->j<k+n->body j (st j)=some (.next<|st<|j+1))->u_ body n k (st k)=some (.inl<|st<|k+n)
 | 0,k,_=>rfl
 | n+1,k,h=>by
  have h1:=h k (Nat.le_refl _) (by omega);have h2:=l_A st n (k+1)<|fun j a b=>h j (by omega) (by omega);unfold u_
  rw [h1]
  simp only
  rw [h2,show k+1+n=k+(n+1) by omega]
theorem b_A {body:Nat->σ->Option (Out σ ρ)}(st:Nat->σ){n:Nat}(h:∀j,j<n->body j (st j)=some (.next<|st<|j+1)):u_ body n 0 (st 0)=some (.inl<|st n):=by
 have:=l_A st n 0<|fun j _ b=>h j (by omega)
 simpa using this
theorem forN_ret' {body:Nat->σ->Option (Out σ ρ)}(st:Nat->σ){r:ρ}:∀n k j0,k<=j0->j0<k+n->(∀j,k<=j->j<j0->body j (st j)=some (.next<|st<|j+1))->body j0 (st j0)=some (.ret r)->u_ body n k (st k)=some (.inr r)
 | 0,k,j0,a,b,_,_=>by omega
 | n+1,k,j0,a,b,h,hr=>by
  unfold u_
  by_cases hk:k=j0
  ·subst hk;rw [hr]
  ·rw [h k (Nat.le_refl _) (by omega)]
   exact forN_ret' st n (k+1) j0 (by omega) (by omega) (fun j c d=>h j (by omega) d) hr
theorem f_n {body:Nat->σ->Option (Out σ ρ)}(st:Nat->σ){r:ρ}{n j0:Nat}(G:j0<n)(h:∀j,j<j0->body j (st j)=some (.next<|st<|j+1))(hr:body j0 (st j0)=some (.ret r)):u_ body n 0 (st 0)=some (.inr r) :=
 forN_ret' st n 0 j0 (by omega) (by omega) (fun j _ b=>h j b) hr
theorem d_R {body:Nat->Unit->Option (Out Unit ρ)}{n:Nat}(p:Nat->Bool)(r:Nat->ρ)(h:∀k,k<n->(∀j,j<k->p j=false)->body k ()=some (if p k=true then .ret (r k) else .next ())) :
  u_ body n 0 ()=some (match (List.range n).find? p with | some k=>.inr (r k) | none=>.inl ()):=by
 cases hf:(List.range n).find? p with
 | none =>
  have hn:∀k,k<n->p k=false:=fun k hk=>by
   have:=List.find?_eq_none.1 hf k<|List.mem_range.2 hk
   simpa using this
  exact b_A (fun _=>()) (fun j hj=>by rw [h j hj (fun i hi=>hn i (by omega)),hn j hj];rfl)
 | some k =>
  obtain ⟨hp,as,bs,hl,has⟩:=List.find?_eq_some_iff_append.1 hf
  have hk:as.length<n/\as.length=k:=by
   have h1:as.length<(List.range n).length:=by rw [hl];simp
   simp at h1
   refine ⟨h1,?_⟩;have h2:(List.range n)[as.length]? = some k:=by rw [hl];simp
   rw [List.getElem?_range h1] at h2
   exact Option.some.inj h2
  obtain ⟨h1,rfl⟩:=hk
  have hb:∀j,j<as.length->p j=false:=fun j hj=>by
   have h2:(List.range n)[j]? = some (as[j]):=by rw [hl,List.getElem?_append_left hj];simp
   rw [List.getElem?_range (by omega)] at h2
   have h3:=has as[j] (List.getElem_mem hj)
   rw [← Option.some.inj h2] at h3
   simpa using h3
  exact f_n (fun _=>()) h1 (fun j hj=>by rw [h j (by omega) (fun i hi=>hb i (by omega)),hb j hj];rfl) (by rw [h _ h1 hb,if_pos hp])
theorem p_K {α:Type}(l:List α)(p:α->Bool)(q:Nat->Bool)(h:∀k (hk:k<l.length),q k=p l[k]):(List.range l.length).any q=l.any p:=by
 rw [Bool.eq_iff_iff]
 simp only [List.any_eq_true,List.mem_range]
 constructor
 ·rintro ⟨k,hk,hq⟩;exact ⟨l[k],List.getElem_mem hk,by rw [← h k hk];exact hq⟩
 ·rintro ⟨x,hx,hp⟩;obtain ⟨k,hk,rfl⟩:=List.getElem_of_mem hx;exact ⟨k,hk,by rw [h k hk];exact hp⟩
theorem d_n {body:Nat->Unit->Option (Out Unit ρ)}{n:Nat}(p:Nat->Bool)(r:ρ)(h:∀k,k<n->(∀j,j<k->p j=false)->body k ()=some (if p k=true then .ret r else .next ())) :
  u_ body n 0 ()=some (if (List.range n).any p=true then .inr r else .inl ()):=by
 rw [d_R p (fun _=>r) h]
 cases hf:(List.range n).find? p with
 | none =>
  have:(List.range n).any p=false:=by
   rw [List.any_eq_false];exact fun x hx=>by simpa using List.find?_eq_none.1 hf x hx
  rw [this];rfl
 | some k =>
  have:(List.range n).any p=true:=List.any_eq_true.2 ⟨k,List.mem_of_find?_eq_some hf,List.find?_some hf⟩
  rw [this];rfl
theorem e_r {α:Type}{body:Nat->Unit->Option (Out Unit ρ)}{l:List α}(p:α->Bool)(r:ρ)(h:∀k (hk:k<l.length),body k ()=some (if p l[k]=true then .ret r else .next ())) :
  u_ body l.length 0 ()=some (if l.any p=true then .inr r else .inl ()):=by
 rw [d_n (fun k=>if hk:k<l.length then p l[k] else false) r (fun k hk _=>by rw [dif_pos hk];exact h k hk)]
 rw [p_K l p _ (fun k hk=>by rw [dif_pos hk])]
theorem iter_brk' {step:σ->Option (Out σ ρ)}(st:Nat->σ){s:σ}:∀m k j0,k<=j0->j0<k+m->(∀j,k<=j->j<j0->step (st j)=some (.next<|st<|j+1))->step (st j0)=some (.brk s)->a_5 step m (st k)=some (.inl s)
 | 0,k,j0,a,b,_,_=>by omega
 | m+1,k,j0,a,b,h,hr=>by
  unfold a_5
  by_cases hk:k=j0
  ·subst hk;rw [hr]
  ·rw [h k (Nat.le_refl _) (by omega)]
   exact iter_brk' st m (k+1) j0 (by omega) (by omega) (fun j c d=>h j (by omega) d) hr
theorem l_B {step:σ->Option (Out σ ρ)}(st:Nat->σ){s:σ}{m j0:Nat}(G:j0<m)(h:∀j,j<j0->step (st j)=some (.next<|st<|j+1))(hr:step (st j0)=some (.brk s)):a_5 step m (st 0)=some (.inl s) :=
 iter_brk' st m 0 j0 (by omega) (by omega) (fun j _ b=>h j b) hr
theorem iter_ret' {step:σ->Option (Out σ ρ)}(st:Nat->σ){r:ρ}:∀m k j0,k<=j0->j0<k+m->(∀j,k<=j->j<j0->step (st j)=some (.next<|st<|j+1))->step (st j0)=some (.ret r)->a_5 step m (st k)=some (.inr r)
 | 0,k,j0,a,b,_,_=>by omega
 | m+1,k,j0,a,b,h,hr=>by
  unfold a_5
  by_cases hk:k=j0
  ·subst hk;rw [hr]
  ·rw [h k (Nat.le_refl _) (by omega)]
   exact iter_ret' st m (k+1) j0 (by omega) (by omega) (fun j c d=>h j (by omega) d) hr
theorem p_L {step:σ->Option (Out σ ρ)}(st:Nat->σ){r:ρ}{m j0:Nat}(G:j0<m)(h:∀j,j<j0->step (st j)=some (.next<|st<|j+1))(hr:step (st j0)=some (.ret r)):a_5 step m (st 0)=some (.inr r) :=
 iter_ret' st m 0 j0 (by omega) (by omega) (fun j _ b=>h j b) hr
end
theorem l_C {s:Str}{p:Nat}(h:p<s.b.length)(ha:s.b[p].toNat<128):dec s p=((s.b[p].toNat:Int),1):=by
 have hq:p<(⟨s.b.toArray⟩:ByteArray).size:=by simpa [ByteArray.size] using h
 have hb:(⟨s.b.toArray⟩:ByteArray)[p]'hq=s.b[p]:=rfl;unfold dec
 rw [decode_ascii _ p hq (by rw [hb];exact ha),hb]
theorem p_M {s:Str}{p:Nat}(h:p<s.b.length)(ha:128<=s.b[p].toNat):128<=(dec s p).1:=by
 have hq:p<(⟨s.b.toArray⟩:ByteArray).size:=by simpa [ByteArray.size] using h
 have hb:(⟨s.b.toArray⟩:ByteArray)[p]'hq=s.b[p]:=rfl;unfold dec;have:=(decode_high _ p hq (by rw [hb];exact ha)).1
 simp only
 omega
abbrev bF_:=@Bool.false_eq_true
abbrev dT_:=@decide_eq_true
abbrev dF_:=@decide_eq_false
abbrev bQ_:=@beq_self_eq_true
abbrev mT_:=@List.mem_cons_of_mem
abbrev mS_:=@List.mem_cons_self
abbrev gE_:=@List.getElem_mem
abbrev oI_:=@Option.some.injEq
abbrev gG_:=@List.getElem?_eq_getElem
abbrev gD_:=@List.getD_eq_getElem?_getD
abbrev aE_:=@Bool.and_eq_true
abbrev dE_:=@decide_eq_true_eq
abbrev tN_:=@Int.toNat_natCast
abbrev gS_:=@List.getElem?_eq_some_iff
abbrev iP_:=@if_pos
abbrev iN_:=@if_neg
abbrev fF_:=@if_false
abbrev fT_:=@if_true
abbrev gN_:=@List.getElem?_eq_none
abbrev nT_:=@Bool.not_true
abbrev ix_:=@j_q
abbrev ia_:=@p_H
abbrev lC_:=@List.length_cons
abbrev bN_:=@bne_self_eq_false
abbrev dC_:=@List.drop_eq_getElem_cons
end Go.Vw
