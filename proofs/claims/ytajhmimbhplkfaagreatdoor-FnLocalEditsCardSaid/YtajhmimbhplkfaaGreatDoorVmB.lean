/- Texts of this claim, put together. -/
import Derived.Test.YtajhmimbhplkfaaGreatDoorVmA
import Derived.Laws.CopyRow
import Derived.Laws.IdiomStrings
import Derived.Lib.AppendStr
import Derived.Carry
import Derived.Deep.DeepHandedRow
import Derived.WalkKit
import Derived.ProofKit
import Derived.OpenShut
import Derived.Laws.RangeAny
set_option linter.unusedVariables false
namespace Go.Vw
def g_q (n:Nat) (x1:Str) (x2:UInt8):Option (List Str) :=
 bd (Y_ (σ:=(List Str)×Int×Int) (ρ:=List Str) (un3 fun x11 x12 x10=>if (decide<|x10≤(x1.b.length:Int))=true then bd (α:=Bool) (if (x10==(x1.b.length:Int))=true then some true else bd (idx x1.b x10) fun x13=>some<|(byteI x13)==(byteI x2)) (fun x14=>bd (α:=(List Str)×Int) (if x14=true then bd (b_B x1 x12 x10) fun x15=>bd (psh x11 x15) fun x16=>some (x16,g_ x10 1) else some (x11,x12))<|un2 fun x17 x18=>some<|.next (x17,x18,g_ x10 1)) else some (.brk (x11,x12,x10))) n (([]:List Str),0,0)) (el (un3 fun x11 x12 x10=>some x11)<|fun r19=>some r19)
def a_T (x1:Int) (x2:Int) (x3:Int):Option Bool :=
 bd (α:=Bool) (if (decide<|x2≤x1)=true then some (decide<|x1≤x3) else some false) (fun x10=>some x10)
def e_x (x1:Str):Option Bool :=
 bd (E_ (σ:=Unit) (ρ:=Bool) (fun k10=>(fun (_:Unit)=>bd (α:=Bool) (bd (idx x1.b (k10:Int)) fun x11=>if (decide<|(byteI (97:UInt8))≤(byteI x11))=true then bd (idx x1.b (k10:Int)) fun x12=>some (decide<|(byteI x12)≤(byteI (122:UInt8))) else some false) (fun x13=>bd (α:=Bool) (bd (idx x1.b (k10:Int)) fun x14=>if (decide<|(byteI (48:UInt8))≤(byteI x14))=true then bd (idx x1.b (k10:Int)) fun x15=>some (decide<|(byteI x15)≤(byteI (57:UInt8))) else some false) (fun x16=>bd (α:=Bool) (if (!x13)=true then if (!x16)=true then some true else some ((k10:Int)==0) else some false) (fun x17=>if x17=true then some (.ret false) else some (.next ())))))) x1.b.length 0 ()) (el (fun (_:Unit)=>bd (a_T (x1.b.length:Int) 1 12) fun r18=>some r18)<|fun r19=>some r19)
def b_Y (n:Nat) (x1:Int):Option Str :=
 if (x1==0)=true then some (⟨[48]⟩:Str) else bd (Y_ (σ:=Str×Int) (ρ:=Str) (un2 fun x11 x10=>if (x10 != 0)=true then bd (α:=Int) (if (decide<|(b_8 x10 10)<0)=true then some (f_2<|b_8 x10 10) else some (b_8 x10 10)) (fun x12=>bd (cat (⟨[mkB (g_ 48 x12)]⟩:Str) x11) fun x13=>some<|.next (x13,c_4 x10 10)) else some (.brk (x11,x10))) n ((⟨[]⟩:Str),x1)) (el (un2 fun x11 x10=>if (decide<|x1<0)=true then bd (cat (⟨[45]⟩:Str) x11) fun x14=>some x14 else some x11)<|fun r15=>some r15)
def g_r (n:Nat) (x1:Str):Option (Int×Bool) :=
 bd (a_T (x1.b.length:Int) 1 13) fun r12=>if (!r12)=true then some (0,false) else bd (E_ (σ:=Int) (ρ:=Int×Bool) (fun k11=>(fun x10=>bd (idx x1.b (k11:Int)) fun x13=>bd (a_T (byteI x13) 48 57) fun r14=>if (!r14)=true then some (.ret (0,false)) else bd (idx x1.b (k11:Int)) fun x15=>some<|.next<|g_ (a_9 10 x10)<|byteI<|mkB<|byteI x15 - byteI (48:UInt8))) x1.b.length 0 0) (el (fun x10=>bd (α:=Bool) (if (decide<|1000000000000<x10)=true then some true else bd (b_Y n x10) fun r16=>some<|r16.b != x1.b) (fun x17=>if x17=true then some (0,false) else some (x10,true)))<|fun r18=>some r18)
def e_y (n:Nat) (x1:Str):Option Bool :=
 bd (α:=Bool) (bd (e_x x1) fun r10=>if r10=true then some true else if (x1.b==(⟨[42]⟩:Str).b)=true then some true else if (x1.b==(⟨[63]⟩:Str).b)=true then some true else some (x1.b==(⟨[43]⟩:Str).b)) (fun x11=>if x11=true then some true else bd2 (g_r n x1) fun r12 r13=>bd (α:=Bool) (if r13=true then bd (b_Y n r12) fun r14=>some (r14.b==x1.b) else some false)<|fun x15=>some x15)
def g_s (n:Nat) (x1:Str):Option ((List Str)×Bool) :=
 if (x1.b==(⟨[]⟩:Str).b)=true then some (([]:List Str),true) else bd (g_q n x1 (47:UInt8)) fun r10=>bd (idx r10 0) fun x12=>if (x12.b != (⟨[]⟩:Str).b)=true then some (([]:List Str),false) else bd (Y_ (σ:=Int) (ρ:=(List Str)×Bool) (fun x11=>if (decide<|x11<(r10.length:Int))=true then bd (idx r10 x11) fun x13=>bd (e_y n x13) fun r14=>if (!r14)=true then some (.ret (([]:List Str),false)) else some (.next<|g_ x11 1) else some (.brk x11)) n 1) (el (fun x11=>bd (slc r10 1 (r10.length:Int)) fun x15=>some (x15,decide<|1<(r10.length:Int)))<|fun r16=>some r16)
def c_i (x1:e_) (x2:Bool) (x3:Bool) (x4:Bool) (x5:Bool) (x6:Int):Option Bool :=
 bd (α:=Bool) (bd (α:=Bool) (if x2=true then some true else some (x1.size==0)) fun u10=>bd (α:=Bool) (if u10=true then if x3=true then some true else some ((x1.bytes.length:Int)==0) else some false) fun u11=>bd (α:=Bool) (if u11=true then if x4=true then some true else some ((x1.names.length:Int)==0) else some false) fun u12=>bd (α:=Bool) (if u12=true then if x5=true then some true else some ((x1.tags.length:Int)==0) else some false) fun u13=>bd (α:=Bool) (if u13=true then if (decide<|x6<0)=true then some true else some ((x1.kids.length:Int)==x6) else some false) fun u14=>if u14=true then if (!x1.little)=true then some true else some (x1.kind==1) else some false) (fun x15=>some x15)
def d_y (x1:Int):Option Int :=
 bd (nn<|a_9 8 x1) fun u10=>some<|b_F .i64 1<|a_9 8 x1
def e_z (x1:f_) (x2:Int):Option Int :=
 bd (α:=Bool) (bd (a_T x2 0<|D_ (x1.rules.length:Int) 1) fun r10=>if (!r10)=true then some true else bd (idx x1.rules x2) fun x11=>if (x11.kind != 1)=true then some true else bd (idx x1.rules x2) fun x12=>bd (a_T x12.size 1 4) fun r13=>some (!r13)) (fun x14=>if x14=true then some (-1) else bd (idx x1.rules x2) fun x15=>bd (d_y x15.size) fun r16=>some<|D_ r16 1)
def g_t (x1:List Str) (x2:Str):Option Bool :=
 bd (E_ (σ:=Unit) (ρ:=Bool) (fun k10=>(fun (_:Unit)=>bd (idx x1 (k10:Int)) fun x11=>if (x11.b==x2.b)=true then some (.ret true) else some (.next ()))) x1.length 0 ()) (el (fun (_:Unit)=>some false)<|fun r12=>some r12)
def g_u (x1:List Str):Option Bool :=
 bd (E_ (σ:=Unit) (ρ:=Bool) (fun k10=>(fun (_:Unit)=>bd (α:=Bool) (bd (idx x1 (k10:Int)) fun x11=>bd (e_x x11) fun r12=>if (!r12)=true then some true else bd (slc x1 0 (k10:Int)) fun x13=>bd (idx x1 (k10:Int)) fun x14=>bd (g_t x13 x14) fun r15=>some r15) (fun x16=>if x16=true then some (.ret false) else some (.next ())))) x1.length 0 ()) (el (fun (_:Unit)=>bd (a_T (x1.length:Int) 1 8) fun r17=>some r17)<|fun r18=>some r18)
def g_v (x1:f_) (x2:e_):Option Bool :=
 bd (α:=Bool) (if ((x2.kids.length:Int) != (g_ (x2.tags.length:Int) 1))=true then some true else bd (a_T (x2.tags.length:Int) 1 8) fun r11=>some (!r11)) (fun x12=>if x12=true then some false else bd (E_ (σ:=Unit) (ρ:=Bool) (fun k10=>(fun (_:Unit)=>bd (α:=Bool) (bd (idx x2.tags (k10:Int)) fun x13=>bd (idx x2.kids 0) fun x14=>bd (e_z x1 x14) fun r15=>bd (a_T x13 0 r15) fun r16=>if (!r16)=true then some true else if (decide<|0<(k10:Int))=true then bd (idx x2.tags<|D_ (k10:Int) 1) fun x17=>bd (idx x2.tags (k10:Int)) fun x18=>some (decide<|x18≤x17) else some false) (fun x19=>if x19=true then some (.ret false) else some (.next ())))) x2.tags.length 0 ()) (el (fun (_:Unit)=>some true)<|fun r1a=>some r1a))
def g_w (x1:f_) (x2:e_):Option Bool :=
 if (x2.kind==1)=true then bd (α:=Bool) (bd (c_i x2 true false false false 0) fun r10=>if r10=true then bd (a_T x2.size 1 4) fun r11=>if r11=true then if (!x2.little)=true then some true else some (decide<|1<x2.size) else some false else some false) (fun x12=>some x12) else if (x2.kind==2)=true then bd (α:=Bool) (bd (c_i x2 false true false false 0) fun r13=>if r13=true then bd (a_T (x2.bytes.length:Int) 1 16) fun r14=>some r14 else some false) (fun x15=>some x15) else if (x2.kind==3)=true then bd (α:=Bool) (bd (c_i x2 true false false false 0) fun r16=>if r16=true then bd (a_T x2.size 1 64) fun r17=>some r17 else some false) (fun x18=>some x18) else if (x2.kind==4)=true then bd (α:=Bool) (bd (c_i x2 false false false false 1) fun r19=>if r19=true then bd (idx x2.kids 0) fun x1a=>bd (e_z x1 x1a) fun r1b=>some (decide<|0<r1b) else some false) (fun x1c=>some x1c) else if (x2.kind==5)=true then bd (α:=Bool) (bd (c_i x2 false false false false 2) fun r1d=>if r1d=true then bd (idx x2.kids 0) fun x1e=>bd (e_z x1 x1e) fun r1f=>some (decide<|0<r1f) else some false) (fun x1g=>some x1g) else if (x2.kind==6)=true then bd (α:=Bool) (bd (c_i x2 false false true false (x2.names.length:Int)) fun r1h=>if r1h=true then bd (g_u x2.names) fun r1i=>some r1i else some false) (fun x1j=>some x1j) else if (x2.kind==7)=true then bd (α:=Bool) (bd (c_i x2 false false false true (-1)) fun r1k=>if r1k=true then bd (g_v x1 x2) fun r1l=>some r1l else some false) (fun x1m=>some x1m) else bd (α:=Bool) (if (x2.kind==8)=true then some (x2.kind==8) else some (x2.kind==9)) (fun x1n=>if x1n=true then bd (c_i x2 false false false false 1) fun r1o=>some r1o else if (x2.kind==10)=true then bd (α:=Bool) (bd (c_i x2 false true false false 0) fun r1p=>if r1p=true then if ((x2.bytes.length:Int)==1)=true then bd (idx x2.bytes 0) fun x1q=>some ((byteI x1q) != (byteI (92:UInt8))) else some false else some false) (fun x1r=>some x1r) else some false)
def g_x (x1:f_) (x2:Int):Option Bool :=
 bd (a_T x2 0<|D_ (x1.rules.length:Int) 1) fun r11=>if (!r11)=true then some false else bd (idx x1.rules x2) fun x10=>bd (E_ (σ:=Unit) (ρ:=Bool) (fun k12=>(fun (_:Unit)=>bd (idx x1.rules (k12:Int)) fun x13=>if (x13.name.b==x10.name.b)=true then some (.ret false) else some (.next ()))) x2.toNat 0 ()) (el (fun (_:Unit)=>bd (E_ (σ:=Unit) (ρ:=Bool) (fun k14=>(fun (_:Unit)=>bd (idx x10.kids (k14:Int)) fun x15=>bd (a_T x15 0<|D_ x2 1) fun r16=>if (!r16)=true then some (.ret false) else some (.next ()))) x10.kids.length 0 ()) (el (fun (_:Unit)=>bd (α:=Bool) (bd (e_x x10.name) fun r17=>if r17=true then bd (g_w x1 x10) fun r18=>some r18 else some false)<|fun x19=>some x19)<|fun r1a=>some r1a))<|fun r1b=>some r1b)
def f_h (x1:f_):Option Bool :=
 bd (E_ (σ:=Unit) (ρ:=Bool) (fun k10=>(fun (_:Unit)=>bd (g_x x1 (k10:Int)) fun r11=>if (!r11)=true then some (.ret false) else some (.next ()))) x1.rules.length 0 ()) (el (fun (_:Unit)=>bd (a_T (x1.rules.length:Int) 1 24) fun r12=>some r12)<|fun r13=>some r13)
def e_A (x1:f_):Option Int :=
 some (D_ (x1.rules.length:Int) 1)
def g_y (x1:List UInt8) (x2:Bool):Option Int :=
 if (decide<|4<(x1.length:Int))=true then some 0 else bd (E_ (σ:=Int) (ρ:=Int) (fun k11=>(fun x10=>bd (α:=Int) (if x2=true then some (D_ (D_ (x1.length:Int) 1) (k11:Int)) else some (k11:Int))<|fun x12=>bd (idx x1 x12) fun x13=>some<|.next<|g_ (a_9 x10 256)<|byteI x13)) x1.length 0 0) (el (fun x10=>some x10)<|fun r14=>some r14)
def c_j (x1:f_) (x2:Int) (x3:List UInt8) (x4:Int):Option (Int×Int×Bool) :=
 bd (idx x1.rules x2) fun x10=>if (decide<|(D_ (x3.length:Int) x4)<x10.size)=true then some (0,x4,false) else bd (slc x3 x4<|g_ x4 x10.size) fun x11=>bd (g_y x11 x10.little) fun r12=>some (r12,g_ x4 x10.size,true)
def b_p (x1:e_) (x2:Int) (x3:Int):Option Int :=
 if (x1.kind==5)=true then bd (idx x1.kids 1) fun x11=>some x11 else bd (α:=Sum Unit Int) (if (x1.kind==6)=true then if (decide<|x3<(x1.kids.length:Int))=true then bd (idx x1.kids x3) fun x12=>some (.inr x12) else some (.inl ()) else bd (α:=Sum Unit<|Sum Unit Int) (if (x1.kind==7)=true then bd (E_ (σ:=Unit) (ρ:=Int) (fun k10=>(fun (_:Unit)=>bd (idx x1.tags (k10:Int)) fun x13=>if (x13==x2)=true then bd (idx x1.kids ((k10+1:Nat):Int)) fun x14=>some (.ret x14) else some (.next ()))) x1.tags.length 0 ()) (el (fun (_:Unit)=>some<|.inl ())<|fun r15=>some<|.inr<|.inr r15) else bd (α:=Bool) (if (x1.kind==8)=true then some (x1.kind==8) else some (x1.kind==9)) (fun x16=>if x16=true then bd (idx x1.kids 0) fun x17=>some (.inr<|.inr x17) else some (.inl ()))) (el (fun (_:Unit)=>some<|.inl ()) some)) (el (fun (_:Unit)=>some (-1)) some)
def e_1 (x1:f_) (x2:e_) (x3:List UInt8) (x4:Int):Option (Int×Int×Int) :=
 if (x2.kind==6)=true then some (x4,(x2.kids.length:Int),0) else if (x2.kind==9)=true then some (x4,1,0) else bd (α:=Sum Unit<|Int×Int×Int) (if (x2.kind==8)=true then bd (α:=Bool) (if (decide<|x4<(x3.length:Int))=true then bd (idx x3 x4) fun x12=>some ((byteI x12)==(byteI (1:UInt8))) else some false) (fun x13=>if x13=true then some (.inr (g_ x4 1,1,0)) else some (.inl ())) else bd (α:=Bool) (if (x2.kind==5)=true then some (x2.kind==5) else some (x2.kind==7)) (fun x14=>bd (α:=Sum Unit<|Sum Unit<|Int×Int×Int) (if x14=true then bd (idx x2.kids 0) fun x15=>bd3 (c_j x1 x15 x3 x4) fun r10 r11 r16=>bd (α:=Sum Unit<|Sum Unit<|Sum Unit<|Int×Int×Int) (if (!r16)=true then some (.inl ()) else bd (α:=Bool) (if (x2.kind==5)=true then some (decide<|r10≤40) else some false) (fun x17=>if x17=true then some (.inr<|.inr<|.inr (r11,r10,0)) else bd (α:=Bool) (if (x2.kind==7)=true then bd (b_p x2 r10 0) fun r18=>some (decide<|0≤r18) else some false) (fun x19=>if x19=true then some (.inr<|.inr<|.inr (r11,1,r10)) else some (.inl ())))) (el (fun (_:Unit)=>some<|.inl ()) some) else some (.inl ()))<|el (fun (_:Unit)=>some<|.inl ()) some)) (el (fun (_:Unit)=>some (x4,(-1),0)) some)
def d_7 (n:Nat) (x1:e_) (x2:Int):Option Str :=
 if (x1.kind==5)=true then bd (b_Y n x2) fun r10=>some r10 else bd (α:=Bool) (if (x1.kind==6)=true then some (decide<|x2<(x1.names.length:Int)) else some false) (fun x11=>if x11=true then bd (idx x1.names x2) fun x12=>some x12 else bd (α:=Bool) (if (x1.kind==7)=true then some (x2==0) else some false) (fun x13=>if x13=true then some (⟨[42]⟩:Str) else bd (α:=Bool) (if (x1.kind==8)=true then some (x2==0) else some false) (fun x14=>if x14=true then some (⟨[63]⟩:Str) else bd (α:=Bool) (if (x1.kind==9)=true then some (x2==0) else some false) (fun x15=>if x15=true then some (⟨[43]⟩:Str) else some (⟨[]⟩:Str)))))
def g_z (x1:e_) (x2:List UInt8) (x3:Int):Option (Val×Int×Int) :=
 bd (E_ (σ:=Unit) (ρ:=Val×Int×Int) (fun k10=>(fun (_:Unit)=>if (decide<|(x2.length:Int)≤(g_ x3 (k10:Int)))=true then some (.ret ((⟨0,([]:List UInt8),([]:List Val)⟩:Val),x3,1)) else bd (idx x2<|g_ x3 (k10:Int)) fun x11=>bd (idx x1.bytes (k10:Int)) fun x12=>if ((byteI x11) != (byteI x12))=true then some (.ret ((⟨0,([]:List UInt8),([]:List Val)⟩:Val),g_ x3 (k10:Int),2)) else some (.next ()))) x1.bytes.length 0 ()) (el (fun (_:Unit)=>some ((⟨0,([]:List UInt8),([]:List Val)⟩:Val),g_ x3 (x1.bytes.length:Int),0))<|fun r13=>some r13)
def f_i (x1:List UInt8) (x2:Int) (x3:Int):Option (Val×Int×Int) :=
 if (decide<|(D_ (x1.length:Int) x2)<x3)=true then some ((⟨0,([]:List UInt8),([]:List Val)⟩:Val),x2,1) else bd (slc x1 x2<|g_ x2 x3) fun x10=>bd (app ([]:List UInt8) x10) fun x11=>some ((⟨0,x11,([]:List Val)⟩:Val),g_ x2 x3,0)
def g_A (n:Nat) (x1:List UInt8) (x2:Int) (x3:UInt8):Option ((List UInt8)×Int×Bool) :=
 bd (Y_ (σ:=(List UInt8)×Int) (ρ:=(List UInt8)×Int×Bool) (un2 fun x11 x10=>bd (α:=Bool) (bd (a_T x2 0 (x1.length:Int)) fun r13=>if r13=true then some (decide<|x10<(x1.length:Int)) else some false) (fun x14=>if x14=true then bd (idx x1 x10) fun x15=>if ((byteI x15)==(byteI x3))=true then some (.ret (x11,g_ x10 1,true)) else bd (idx x1 x10) fun x16=>bd (α:=Sum Int<|Out ((List UInt8)×Int)<|(List UInt8)×Int×Bool) (if ((byteI x16)==(byteI (92:UInt8)))=true then if ((g_ x10 1)==(x1.length:Int))=true then some (.inr<|.brk (x11,g_ x10 1)) else some (.inl<|g_ x10 1) else some (.inl x10)) (el (fun x12=>bd (idx x1 x12) fun x17=>bd (psh x11 x17) fun x18=>some<|.next (x18,g_ x12 1)) some) else some (.brk (x11,x10)))) n (([]:List UInt8),x2)) (el (un2 fun x11 x10=>some (([]:List UInt8),x2,false))<|fun r19=>some r19)
def f_j (x1:List UInt8):Option Int :=
 bd (E_ (σ:=Int) (ρ:=Int) (fun k11=>(fun x10=>bd (idx x1 (k11:Int)) fun x12=>some<|.next<|b_8 (g_ x10<|byteI x12) 256)) x1.length 0 0) (el (fun x10=>some x10)<|fun r13=>some r13)
structure f_k where
 spec_l11Read:f_→Int→(List UInt8)→Int→Option (Val×Int×Int)
 spec_l11Items:f_→e_→Int→Int→(List UInt8)→Int→Option (Val×Int×Int)
 spec_l11Choice:f_→e_→(List UInt8)→Int→Option (Val×Int×Int)
 spec_l11Option:f_→e_→(List UInt8)→Int→Option (Val×Int×Int)
 spec_l11Checked:f_→e_→(List UInt8)→Int→Option (Val×Int×Int)
def g_B (n:Nat) (rec:f_k) (x1:f_) (x2:Int) (x3:List UInt8) (x4:Int):Option (Val×Int×Int) :=
 bd (idx x1.rules x2) fun x10=>if (x10.kind==1)=true then bd3 (c_j x1 x2 x3 x4) fun r13 r14 r15=>if (!r15)=true then some ((⟨0,([]:List UInt8),([]:List Val)⟩:Val),x4,1) else some ((⟨r13,([]:List UInt8),([]:List Val)⟩:Val),r14,0) else if (x10.kind==2)=true then bd3 (g_z x10 x3 x4) fun r16 r17 r18=>some (r16,r17,r18) else if (x10.kind==3)=true then bd3 (f_i x3 x4 x10.size) fun r19 r1a r1b=>some (r19,r1a,r1b) else if (x10.kind==10)=true then bd (idx x10.bytes 0) fun x1c=>bd3 (g_A n x3 x4 x1c) fun r1d r1e r1f=>if (!r1f)=true then some ((⟨0,([]:List UInt8),([]:List Val)⟩:Val),x4,1) else some ((⟨0,r1d,([]:List Val)⟩:Val),r1e,0) else if (x10.kind==6)=true then bd3 (rec.spec_l11Items x1 x10 0 (x10.kids.length:Int) x3 x4) fun r1g r1h r1i=>some (r1g,r1h,r1i) else if (x10.kind==7)=true then bd3 (rec.spec_l11Choice x1 x10 x3 x4) fun r1j r1k r1l=>some (r1j,r1k,r1l) else if (x10.kind==8)=true then bd3 (rec.spec_l11Option x1 x10 x3 x4) fun r1m r1n r1o=>some (r1m,r1n,r1o) else if (x10.kind==9)=true then bd3 (rec.spec_l11Checked x1 x10 x3 x4) fun r1p r1q r1r=>some (r1p,r1q,r1r) else bd (idx x10.kids 0) fun x1s=>bd3 (c_j x1 x1s x3 x4) fun r11 r12 r1t=>if (!r1t)=true then some ((⟨0,([]:List UInt8),([]:List Val)⟩:Val),x4,1) else if (x10.kind==4)=true then bd3 (f_i x3 r12 r11) fun r1u r1v r1w=>some (r1u,r1v,r1w) else if (decide<|40<r11)=true then some ((⟨0,([]:List UInt8),([]:List Val)⟩:Val),x4,6) else bd3 (rec.spec_l11Items x1 x10 0 r11 x3 r12) fun r1x r1y r1z=>some (r1x,r1y,r1z)
def g_C (n:Nat) (rec:f_k) (x1:f_) (x2:e_) (x3:Int) (x4:Int) (x5:List UInt8) (x6:Int):Option (Val×Int×Int) :=
 bd (E_ (σ:=Int×(List Val)) (ρ:=Val×Int×Int) (fun k15=>un2 fun x10 x11=>bd (α:=Int×(List UInt8)×(List Val)×Int×Int) (bd (b_p x2 x3 (k15:Int)) fun r16=>bd3 (rec.spec_l11Read x1 r16 x5 x10) fun r12 r17 r18=>some (r12.number,r12.bytes,r12.items,r17,r18)) (un5 fun x19 x1a x1b x13 x14=>if (x14 != 0)=true then some (.ret ((⟨0,([]:List UInt8),([]:List Val)⟩:Val),x13,x14)) else bd (psh x11 (⟨x19,x1a,x1b⟩:Val)) fun x1c=>some<|.next (x13,x1c))) x4.toNat 0 (x6,([]:List Val))) (el (un2 fun x10 x11=>some ((⟨0,([]:List UInt8),x11⟩:Val),x10,0))<|fun r1d=>some r1d)
def g_D (n:Nat) (rec:f_k) (x1:f_) (x2:e_) (x3:List UInt8) (x4:Int):Option (Val×Int×Int) :=
 bd (idx x2.kids 0) fun x13=>bd3 (c_j x1 x13 x3 x4) fun r10 r14 r15=>if (!r15)=true then some ((⟨0,([]:List UInt8),([]:List Val)⟩:Val),x4,1) else bd (b_p x2 r10 0) fun r16=>if (decide<|r16<0)=true then some ((⟨0,([]:List UInt8),([]:List Val)⟩:Val),x4,3) else bd3 (rec.spec_l11Items x1 x2 r10 1 x3 r14) fun r11 r17 r12=>bd (α:=Int) (if (r12==0)=true then some r10 else some r11.number)<|fun x18=>some ((⟨x18,r11.bytes,r11.items⟩:Val),r17,r12)
def g_E (n:Nat) (rec:f_k) (x1:f_) (x2:e_) (x3:List UInt8) (x4:Int):Option (Val×Int×Int) :=
 if (decide<|(x3.length:Int)≤x4)=true then some ((⟨0,([]:List UInt8),([]:List Val)⟩:Val),x4,1) else bd (idx x3 x4) fun x10=>if (decide<|(byteI (1:UInt8))<(byteI x10))=true then some ((⟨0,([]:List UInt8),([]:List Val)⟩:Val),x4,4) else bd (idx x3 x4) fun x11=>bd3 (rec.spec_l11Items x1 x2 0 (byteI x11) x3<|g_ x4 1) fun r12 r13 r14=>some (r12,r13,r14)
def g_F (n:Nat) (rec:f_k) (x1:f_) (x2:e_) (x3:List UInt8) (x4:Int):Option (Val×Int×Int) :=
 bd3 (rec.spec_l11Items x1 x2 0 1 x3 x4) fun r11 r10 r12=>if (r12 != 0)=true then some (r11,r10,r12) else if (decide<|(x3.length:Int)≤r10)=true then some ((⟨0,([]:List UInt8),([]:List Val)⟩:Val),r10,1) else bd (idx x3 r10) fun x13=>bd (slc x3 x4 r10) fun x14=>bd (f_j x14) fun r15=>if ((byteI x13) != r15)=true then some ((⟨0,([]:List UInt8),([]:List Val)⟩:Val),r10,5) else some (r11,g_ r10 1,0)
def a_m:Nat→f_k
 | 0=>⟨fun _ _ _ _=>none,fun _ _ _ _ _ _=>none,fun _ _ _ _=>none,fun _ _ _ _=>none,fun _ _ _ _=>none⟩
 | n+1=>⟨g_B n<|a_m n,g_C n<|a_m n,g_D n<|a_m n,g_E n<|a_m n,g_F n<|a_m n⟩
def d_z (n:Nat):=(a_m n).spec_l11Read
def e_B (n:Nat):=(a_m n).spec_l11Items
def e_2 (n:Nat) (x1:f_) (x2:Int) (x3:List UInt8) (x4:Int) (x5:Str):Option (Int×Int×Bool) :=
 bd (idx x1.rules x2) fun x10=>bd3 (e_1 x1 x10 x3 x4) fun r14 r15 r16=>bd (E_ (σ:=Int) (ρ:=Int×Int×Bool) (fun k12=>(fun x11=>bd (b_p x10 r16 (k12:Int)) fun r13=>bd (d_7 n x10 (k12:Int)) fun r17=>if (r17.b==x5.b)=true then some (.ret (r13,x11,true)) else bd3 (d_z n x1 r13 x3 x11) fun r1b r18 r19=>if (r19 != 0)=true then some (.ret (0,0,false)) else some (.next r18))) r15.toNat 0 r14)<|el (fun x11=>some (0,0,false))<|fun r1a=>some r1a
def e_3 (n:Nat) (x1:f_) (x2:List UInt8) (x3:Str):Option (K_×Bool) :=
 bd2 (g_s n x3) fun r12 r13=>bd (α:=Bool) (if (!r13)=true then some true else bd (f_h x1) fun r14=>if (!r14)=true then some true else some (decide<|400<(x2.length:Int))) (fun x15=>if x15=true then some ((⟨(⟨[]⟩:Str),0,0,0⟩:K_),false) else bd (e_A x1) fun r16=>bd (E_ (σ:=Int×Int) (ρ:=K_×Bool) (fun k17=>un2 fun x10 x11=>bd (idx r12 (k17:Int)) fun x18=>bd3 (e_2 n x1 x10 x2 x11 x18) fun r19 r1a r1b=>if (!r1b)=true then some (.ret ((⟨(⟨[]⟩:Str),0,0,0⟩:K_),false)) else some (.next (r19,r1a))) r12.length 0 (r16,0)) (el (un2 fun x10 x11=>bd3 (d_z n x1 x10 x2 x11) fun r1f r1c r1d=>if (r1d != 0)=true then some ((⟨(⟨[]⟩:Str),0,0,0⟩:K_),false) else some ((⟨x3,x10,x11,r1c⟩:K_),true))<|fun r1e=>some r1e))
def f_l (x1:List UInt8) (x2:Int) (x3:Int) (x4:List UInt8):Option ((List UInt8)×Bool) :=
 bd (α:=Bool) (if (decide<|x2<0)=true then some true else if (decide<|x3<0)=true then some true else if (decide<|(x1.length:Int)<x3)=true then some true else some (decide<|(D_ (x1.length:Int) x3)<x2)) (fun x10=>if x10=true then bd (app ([]:List UInt8) x1) fun x11=>some (x11,false) else bd (slc x1 0 x2) fun x12=>bd (slc x1 (g_ x2 x3) (x1.length:Int)) fun x13=>bd (app ([]:List UInt8) x12) fun x14=>bd (app x14 x4) fun x15=>bd (app x15 x13) fun x16=>some (x16,true))
def g_G (x1:f_) (x2:Int):Option Bool :=
 bd (α:=Bool) (bd (a_T x2 0<|D_ (x1.rules.length:Int) 1) fun r10=>if r10=true then bd (f_h x1) fun r11=>some r11 else some false) (fun x12=>some x12)
def g_H (n:Nat) (x1:f_) (x2:Int) (x3:List UInt8) (x4:Int):Option (Val×Int×Int) :=
 bd (α:=Bool) (bd (g_G x1 x2) fun r10=>if (!r10)=true then some true else bd (a_T x4 0 (x3.length:Int)) fun r11=>if (!r11)=true then some true else some (decide<|400<(x3.length:Int))) (fun x12=>if x12=true then some ((⟨0,([]:List UInt8),([]:List Val)⟩:Val),0,8) else bd3 (d_z n x1 x2 x3 x4) fun r13 r14 r15=>some (r13,r14,r15))
def g_I (n:Nat) (x1:f_) (x2:List UInt8):Option (Val×Int×Int) :=
 bd (α:=Int×(List UInt8)×(List Val)×Int×Int) (bd (e_A x1) fun r13=>bd3 (g_H n x1 r13 x2 0) fun r10 r14 r15=>some (r10.number,r10.bytes,r10.items,r14,r15)) (un5 fun x16 x17 x18 x11 x12=>bd (α:=Bool) (if (x12==0)=true then some (decide<|x11<(x2.length:Int)) else some false) (fun x19=>if x19=true then some ((⟨0,([]:List UInt8),([]:List Val)⟩:Val),x11,7) else some ((⟨x16,x17,x18⟩:Val),x11,x12)))
def e_C (n:Nat) (x1:f_) (x2:List UInt8):Option Bool :=
 bd3 (g_I n x1 x2) fun r11 r12 r10=>some<|r10==0
def g_J (n:Nat) (x1:f_) (x2:List UInt8) (x3:Str) (x4:List UInt8):Option ((List UInt8)×Bool) :=
 bd (app ([]:List UInt8) x2) fun x12=>bd2 (e_3 n x1 x2 x3) fun r10 r14=>if (!r14)=true then some (x12,false) else bd2 (f_l x2 r10.start (D_ r10.end_ r10.start) x4) fun r11 r18=>bd2 (e_3 n x1 r11 x3) fun r13 r15=>bd (α:=Bool) (if (!r15)=true then some true else bd (e_C n x1 r11) fun r16=>if (!r16)=true then some true else if (r13.start != r10.start)=true then some true else some (r13.end_ != (g_ r10.start (x4.length:Int)))) (fun x17=>if x17=true then some (x12,false) else some (r11,true))
def f_m (x1:Str) (x2:UInt8):Option (List Str) :=
 bd (E_ (σ:=(List Str)×Int) (ρ:=List Str) (fun k12=>un2 fun x10 x11=>bd (idx x1.b (k12:Int)) fun x13=>bd (α:=(List Str)×Int) (if ((byteI x13)==(byteI x2))=true then bd (b_B x1 x11 (k12:Int)) fun x14=>bd (psh x10 x14) fun x15=>some (x15,((k12+1:Nat):Int)) else some (x10,x11))<|un2 fun x16 x17=>some<|.next (x16,x17)) x1.b.length 0 (([]:List Str),0)) (el (un2 fun x10 x11=>bd (b_B x1 x11 (x1.b.length:Int)) fun x18=>bd (psh x10 x18) fun x19=>some x19)<|fun r1a=>some r1a)
def e_4 (n:Nat) (x1:Str):Option Bool :=
 bd (α:=Bool) (if (decide<|(x1.b.length:Int)<1)=true then some true else some (decide<|12<(x1.b.length:Int))) (fun x11=>if x11=true then some false else bd (Y_ (σ:=Nat) (ρ:=Bool) (fun x10=>if (decide<|x10<x1.b.length)=true then bd (α:=Bool) (if (decide<|97≤((dec x1 x10).1))=true then some (decide<|((dec x1 x10).1)≤122) else some false) (fun x12=>bd (α:=Bool) (if (decide<|48≤((dec x1 x10).1))=true then some (decide<|((dec x1 x10).1)≤57) else some false) (fun x13=>bd (α:=Bool) (if (!x12)=true then if (!x13)=true then some true else some ((x10:Int)==0) else some false) (fun x14=>if x14=true then some (.ret false) else some (.next<|x10+(dec x1 x10).2)))) else some (.brk x10)) n 0) (el (fun x10=>some true)<|fun r15=>some r15))
def f_n (x1:Str):Option (Int×Bool) :=
 bd (α:=Bool) (if (x1.b==(⟨[]⟩:Str).b)=true then some true else if (decide<|13<(x1.b.length:Int))=true then some true else bd (idx x1.b 0) fun x12=>if ((byteI x12)==(byteI (48:UInt8)))=true then some (decide<|1<(x1.b.length:Int)) else some false) (fun x13=>if x13=true then some (0,false) else bd (E_ (σ:=Int) (ρ:=Int×Bool) (fun k11=>(fun x10=>bd (α:=Bool) (bd (idx x1.b (k11:Int)) fun x14=>if (decide<|(byteI x14)<(byteI (48:UInt8)))=true then some true else bd (idx x1.b (k11:Int)) fun x15=>some<|decide<|(byteI (57:UInt8))<(byteI x15)) (fun x16=>if x16=true then some (.ret (0,false)) else bd (idx x1.b (k11:Int)) fun x17=>some<|.next<|g_ (a_9 10 x10)<|byteI<|mkB<|byteI x17 - byteI (48:UInt8)))) x1.b.length 0 0) (el (fun x10=>if (decide<|1000000000000<x10)=true then some (0,false) else some (x10,true))<|fun r18=>some r18))
def e_D (n:Nat) (x1:Str):Option Bool :=
 bd (α:=Bool) (bd (e_4 n x1) fun r10=>if r10=true then some true else if (x1.b==(⟨[42]⟩:Str).b)=true then some true else if (x1.b==(⟨[63]⟩:Str).b)=true then some true else some (x1.b==(⟨[43]⟩:Str).b)) (fun x11=>if x11=true then some true else bd2 (f_n x1) fun r13 r12=>some r12)
def i_I (n:Nat) (x1:Str):Option ((List Str)×Bool) :=
 if (x1.b==(⟨[]⟩:Str).b)=true then some ([],true) else bd (idx x1.b 0) fun c=>if (byteI c != byteI (47:UInt8))=true then some ([],false) else bd (f_m x1 (47:UInt8)) fun l=>bd (slc l 1 (l.length:Int)) fun parts=>bd (f_g (e_D n) parts) fun oks=>if parts.length<LIM then some (if oks.all id=true then (parts,true) else ([],false)) else none
def g_K (n:Nat) (x1:Str):Option ((List Str)×Bool) :=
 bd2 (i_I n x1) fun r10 r11=>some (r10,r11)
def c_k (x1:Int) (x2:Int) (x3:Int):Option Bool :=
 bd (α:=Bool) (if (decide<|x2≤x1)=true then some (decide<|x1≤x3) else some false) (fun x10=>some x10)
def e_5 (x1:f_) (x2:Int):Option Bool :=
 bd (α:=Bool) (if (decide<|0≤x2)=true then some (decide<|x2<(x1.rules.length:Int)) else some false) (fun x10=>some x10)
def c_l (x1:e_) (x2:Bool) (x3:Bool) (x4:Bool) (x5:Bool) (x6:Int):Option Bool :=
 bd (α:=Bool) (bd (α:=Bool) (if x2=true then some true else some (x1.size==0)) fun u10=>bd (α:=Bool) (if u10=true then if x3=true then some true else some ((x1.bytes.length:Int)==0) else some false) fun u11=>bd (α:=Bool) (if u11=true then if x4=true then some true else some ((x1.names.length:Int)==0) else some false) fun u12=>bd (α:=Bool) (if u12=true then if x5=true then some true else some ((x1.tags.length:Int)==0) else some false) fun u13=>if u13=true then if (decide<|x6<0)=true then some true else some ((x1.kids.length:Int)==x6) else some false) (fun x14=>some x14)
def e_E (x1:f_) (x2:Int):Option Int :=
 bd (α:=Bool) (bd (e_5 x1 x2) fun r11=>if (!r11)=true then some true else bd (idx x1.rules x2) fun x12=>if (x12.kind != 1)=true then some true else bd (idx x1.rules x2) fun x13=>bd (c_k x13.size 1 4) fun r14=>some (!r14)) (fun x15=>if x15=true then some (-1) else bd (idx x1.rules x2) fun x10=>bd (nn<|a_9 8 x10.size) fun u16=>some<|D_ (b_F .i64 1<|a_9 8 x10.size) 1)
def e_F (x1:List Str) (x2:Str):Option Bool :=
 bd (E_ (σ:=Unit) (ρ:=Bool) (fun k10=>(fun (_:Unit)=>bd (idx x1 (k10:Int)) fun x11=>if (x11.b==x2.b)=true then some (.ret true) else some (.next ()))) x1.length 0 ()) (el (fun (_:Unit)=>some false)<|fun r12=>some r12)
def g_L (n:Nat) (x1:e_):Option Bool :=
 bd (α:=Bool) (bd (c_l x1 false false true false (-1)) fun r12=>if (!r12)=true then some true else if ((x1.kids.length:Int) != (x1.names.length:Int))=true then some true else bd (c_k (x1.kids.length:Int) 1 8) fun r13=>some (!r13)) (fun x14=>if x14=true then some false else bd (E_ (σ:=Unit) (ρ:=Bool) (fun k10=>(fun (_:Unit)=>bd (idx x1.names (k10:Int)) fun x11=>bd (α:=Bool) (bd (e_4 n x11) fun r15=>if (!r15)=true then some true else bd (slc x1.names 0 (k10:Int)) fun x16=>bd (e_F x16 x11) fun r17=>some r17) (fun x18=>if x18=true then some (.ret false) else some (.next ())))) x1.names.length 0 ()) (el (fun (_:Unit)=>some true)<|fun r19=>some r19))
def g_M (x1:f_) (x2:e_):Option Bool :=
 bd (α:=Bool) (bd (c_l x2 false false false true<|g_ (x2.tags.length:Int) 1) fun r13=>if (!r13)=true then some true else bd (c_k (x2.tags.length:Int) 1 8) fun r14=>some (!r14)) (fun x15=>if x15=true then some false else bd (idx x2.kids 0) fun x16=>bd (e_E x1 x16) fun r11=>bd (E_ (σ:=Unit) (ρ:=Bool) (fun k10=>(fun (_:Unit)=>bd (idx x2.tags (k10:Int)) fun x12=>bd (α:=Bool) (bd (c_k x12 0 r11) fun r17=>if (!r17)=true then some true else if (decide<|0<(k10:Int))=true then bd (idx x2.tags<|D_ (k10:Int) 1) fun x18=>some (decide<|x12≤x18) else some false) (fun x19=>if x19=true then some (.ret false) else some (.next ())))) x2.tags.length 0 ())<|el (fun (_:Unit)=>some<|decide<|0<r11)<|fun r1a=>some r1a)
def g_N (n:Nat) (x1:f_) (x2:e_):Option Bool :=
 if (x2.kind==1)=true then bd (α:=Bool) (bd (c_l x2 true false false false 0) fun r10=>if r10=true then bd (c_k x2.size 1 4) fun r11=>if r11=true then if (!x2.little)=true then some true else some (decide<|1<x2.size) else some false else some false) (fun x12=>some x12) else if (x2.kind==2)=true then bd (α:=Bool) (bd (c_l x2 false true false false 0) fun r13=>if r13=true then bd (c_k (x2.bytes.length:Int) 1 16) fun r14=>some r14 else some false) (fun x15=>some x15) else if (x2.kind==3)=true then bd (α:=Bool) (bd (c_l x2 true false false false 0) fun r16=>if r16=true then bd (c_k x2.size 1 64) fun r17=>some r17 else some false) (fun x18=>some x18) else if (x2.kind==4)=true then bd (α:=Bool) (bd (c_l x2 false false false false 1) fun r19=>if r19=true then bd (idx x2.kids 0) fun x1a=>bd (e_E x1 x1a) fun r1b=>some (decide<|0<r1b) else some false) (fun x1c=>some x1c) else if (x2.kind==5)=true then bd (α:=Bool) (bd (c_l x2 false false false false 2) fun r1d=>if r1d=true then bd (idx x2.kids 0) fun x1e=>bd (e_E x1 x1e) fun r1f=>some (decide<|0<r1f) else some false) (fun x1g=>some x1g) else if (x2.kind==6)=true then bd (g_L n x2) fun r1h=>some r1h else if (x2.kind==7)=true then bd (g_M x1 x2) fun r1i=>some r1i else bd (α:=Bool) (if (x2.kind==8)=true then some (x2.kind==8) else some (x2.kind==9)) (fun x1j=>if x1j=true then bd (c_l x2 false false false false 1) fun r1k=>some r1k else if (x2.kind==10)=true then bd (α:=Bool) (bd (c_l x2 false true false false 0) fun r1l=>if r1l=true then if ((x2.bytes.length:Int)==1)=true then bd (idx x2.bytes 0) fun x1m=>some ((byteI x1m) != (byteI (92:UInt8))) else some false else some false) (fun x1n=>some x1n) else some false)
def g_O (n:Nat) (x1:f_) (x2:Int):Option Bool :=
 bd (e_5 x1 x2) fun r13=>if (!r13)=true then some false else bd (idx x1.rules x2) fun x10=>bd (α:=Bool) (bd (e_4 n x10.name) fun r14=>if (!r14)=true then some true else if x10.little=true then some (x10.kind != 1) else some false) (fun x15=>if x15=true then some false else bd (slc x1.rules 0 x2) fun x11=>bd (E_ (σ:=Unit) (ρ:=Bool) (fun k16=>(fun (_:Unit)=>bd (idx x11 (k16:Int)) fun x17=>if (x17.name.b==x10.name.b)=true then some (.ret false) else some (.next ()))) x11.length 0 ()) (el (fun (_:Unit)=>bd (E_ (σ:=Unit) (ρ:=Bool) (fun k18=>(fun (_:Unit)=>bd (idx x10.kids (k18:Int)) fun x12=>bd (α:=Bool) (if (decide<|x12<0)=true then some true else some (decide<|x2≤x12)) (fun x19=>if x19=true then some (.ret false) else some (.next ())))) x10.kids.length 0 ())<|el (fun (_:Unit)=>bd (g_N n x1 x10) fun r1a=>some r1a)<|fun r1b=>some r1b)<|fun r1c=>some r1c))
def f_o (n:Nat) (x1:f_):Option Bool :=
 bd (c_k (x1.rules.length:Int) 1 24) fun r10=>if (!r10)=true then some false else bd (E_ (σ:=Unit) (ρ:=Bool) (fun k11=>(fun (_:Unit)=>bd (g_O n x1 (k11:Int)) fun r12=>if (!r12)=true then some (.ret false) else some (.next ()))) x1.rules.length 0 ()) (el (fun (_:Unit)=>some true)<|fun r13=>some r13)
def f_p (x1:f_):Option Int :=
 some (D_ (x1.rules.length:Int) 1)
def f_q (n:Nat) (x1:f_) (x2:Int):Option Bool :=
 bd (α:=Bool) (bd (f_o n x1) fun r10=>if r10=true then bd (e_5 x1 x2) fun r11=>some r11 else some false) (fun x12=>some x12)
def d_A (x1:a_2) (x2:Int) (x3:Int):Option V_ :=
 if (decide<|(D_ (x1.b.length:Int) x2)<x3)=true then some (⟨x2,1⟩:V_) else some (⟨g_ x2 x3,0⟩:V_)
def e_G (x1:List UInt8) (x2:Bool):Option Int :=
 if (decide<|4<(x1.length:Int))=true then some 0 else bd (E_ (σ:=Int) (ρ:=Int) (fun k11=>(fun x10=>bd (α:=Int) (if x2=true then bd (idx x1<|D_ (D_ (x1.length:Int) 1) (k11:Int)) fun x12=>some (a_w .i64 (· ||| ·) (b_F .i64 x10 8)<|byteI x12) else bd (idx x1 (k11:Int)) fun x13=>some<|a_w .i64 (· ||| ·) (b_F .i64 x10 8)<|byteI x13)<|fun x14=>some<|.next x14)) x1.length 0 0) (el (fun x10=>some x10)<|fun r15=>some r15)
def e_6 (x1:a_2) (x2:Int) (x3:Int):Option (Int×V_×Int) :=
 bd (idx x1.d.rules x2) fun x11=>bd (d_A (⟨(⟨x1.d.rules⟩:f_),x1.b,g_ x1.applied 1⟩:a_2) x3 x11.size) fun r10=>if (r10.code != 0)=true then some (0,r10,g_ x1.applied 1) else bd (slc x1.b x3 r10.at_) fun x12=>bd (e_G x12 x11.little) fun r13=>some (r13,r10,g_ x1.applied 1)
def g_P (x1:a_2) (x2:e_) (x3:Int):Option V_ :=
 bd (E_ (σ:=Unit) (ρ:=V_) (fun k10=>(fun (_:Unit)=>bd (idx x2.bytes (k10:Int)) fun x11=>if ((g_ x3 (k10:Int))==(x1.b.length:Int))=true then some (.ret (⟨x3,1⟩:V_)) else bd (idx x1.b<|g_ x3 (k10:Int)) fun x12=>if ((byteI x12) != (byteI x11))=true then some (.ret (⟨g_ x3 (k10:Int),2⟩:V_)) else some (.next ()))) x2.bytes.length 0 ()) (el (fun (_:Unit)=>some (⟨g_ x3 (x2.bytes.length:Int),0⟩:V_))<|fun r13=>some r13)
def f_r (x1:List UInt8):Option Int :=
 bd (E_ (σ:=Int) (ρ:=Int) (fun k11=>(fun x10=>bd (idx x1 (k11:Int)) fun x12=>some<|.next<|g_ x10<|byteI x12)) x1.length 0 0) (el (fun x10=>some<|b_8 x10 256)<|fun r13=>some r13)
def f_s (n:Nat) (x1:List UInt8) (x2:Int) (x3:UInt8):Option ((List UInt8)×Int×Bool) :=
 bd (α:=Bool) (if (decide<|x2<0)=true then some true else some (decide<|(x1.length:Int)<x2)) (fun x13=>if x13=true then some (([]:List UInt8),x2,false) else bd (Y_ (σ:=(List UInt8)×Int) (ρ:=(List UInt8)×Int×Bool) (un2 fun x11 x10=>if (decide<|x10<(x1.length:Int))=true then bd (idx x1 x10) fun x14=>if ((byteI x14)==(byteI x3))=true then some (.ret (x11,g_ x10 1,true)) else bd (idx x1 x10) fun x15=>bd (α:=Sum Int<|Out ((List UInt8)×Int)<|(List UInt8)×Int×Bool) (if ((byteI x15)==(byteI (92:UInt8)))=true then if ((g_ x10 1)==(x1.length:Int))=true then some (.inr<|.brk (x11,g_ x10 1)) else some (.inl<|g_ x10 1) else some (.inl x10)) (el (fun x12=>bd (idx x1 x12) fun x16=>bd (psh x11 x16) fun x17=>some<|.next (x17,g_ x12 1)) some) else some (.brk (x11,x10))) n (([]:List UInt8),x2)) (el (un2 fun x11 x10=>some (([]:List UInt8),x2,false))<|fun r18=>some r18))
structure f_t where
 impl_checker_value:a_2→Int→Int→Option (V_×Int)
 impl_checker_array:a_2→e_→Int→Option (V_×Int)
 impl_checker_choice:a_2→e_→Int→Option (V_×Int)
 impl_checker_option:a_2→e_→Int→Option (V_×Int)
 impl_checker_checked:a_2→e_→Int→Option (V_×Int)
def g_Q (n:Nat) (rec:f_t) (x1:a_2) (x2:Int) (x3:Int):Option (V_×Int) :=
 bd (idx x1.d.rules x2) fun x10=>if (x10.kind==1)=true then bd3 (e_6 x1 x2 x3) fun r1t r18 r19=>some (r18,r19) else if (x10.kind==2)=true then bd (g_P (⟨(⟨x1.d.rules⟩:f_),x1.b,g_ x1.applied 1⟩:a_2) x10 x3) fun r1a=>some (r1a,g_ x1.applied 1) else if (x10.kind==3)=true then bd (d_A (⟨(⟨x1.d.rules⟩:f_),x1.b,g_ x1.applied 1⟩:a_2) x3 x10.size) fun r1b=>some (r1b,g_ x1.applied 1) else if (x10.kind==4)=true then bd (idx x10.kids 0) fun x1c=>bd3 (e_6 (⟨(⟨x1.d.rules⟩:f_),x1.b,g_ x1.applied 1⟩:a_2) x1c x3) fun r1d r12 r13=>if (r12.code != 0)=true then some (r12,r13) else bd (d_A (⟨(⟨x1.d.rules⟩:f_),x1.b,r13⟩:a_2) r12.at_ r1d) fun r1e=>some (r1e,r13) else if (x10.kind==5)=true then bd2 (rec.impl_checker_array (⟨(⟨x1.d.rules⟩:f_),x1.b,g_ x1.applied 1⟩:a_2) x10 x3) fun r1f r1g=>some (r1f,r1g) else if (x10.kind==6)=true then bd (E_ (σ:=Int×Int×Int) (ρ:=V_×Int) (fun k1h=>un3 fun x14 x15 x16=>bd (idx x10.kids (k1h:Int)) fun x1i=>bd2 (rec.impl_checker_value (⟨(⟨x1.d.rules⟩:f_),x1.b,x14⟩:a_2) x1i x15) fun r11 r17=>if (r11.code != 0)=true then some (.brk (r17,r11.at_,r11.code)) else some (.next (r17,r11.at_,r11.code))) x10.kids.length 0 (g_ x1.applied 1,x3,0)) (el (un3 fun x14 x15 x16=>some ((⟨x15,x16⟩:V_),x14))<|fun r1j=>some r1j) else if (x10.kind==7)=true then bd2 (rec.impl_checker_choice (⟨(⟨x1.d.rules⟩:f_),x1.b,g_ x1.applied 1⟩:a_2) x10 x3) fun r1k r1l=>some (r1k,r1l) else if (x10.kind==8)=true then bd2 (rec.impl_checker_option (⟨(⟨x1.d.rules⟩:f_),x1.b,g_ x1.applied 1⟩:a_2) x10 x3) fun r1m r1n=>some (r1m,r1n) else if (x10.kind==9)=true then bd2 (rec.impl_checker_checked (⟨(⟨x1.d.rules⟩:f_),x1.b,g_ x1.applied 1⟩:a_2) x10 x3) fun r1o r1p=>some (r1o,r1p) else bd (idx x10.bytes 0) fun x1q=>bd3 (f_s n x1.b x3 x1q) fun r1u r1r r1s=>if (!r1s)=true then some ((⟨x3,1⟩:V_),g_ x1.applied 1) else some ((⟨r1r,0⟩:V_),g_ x1.applied 1)
def g_R (n:Nat) (rec:f_t) (x1:a_2) (x2:e_) (x3:Int):Option (V_×Int) :=
 bd (idx x2.kids 0) fun x18=>bd3 (e_6 x1 x18 x3) fun r15 r14 r16=>bd (α:=Bool) (if (r14.code==0)=true then some (decide<|40<r15) else some false) (fun x19=>if x19=true then some ((⟨x3,6⟩:V_),r16) else bd (Y_ (σ:=Int×Int×Int×Int) (ρ:=V_×Int) (un4 fun x10 x11 x12 x13=>bd (α:=Bool) (if (decide<|0<x10)=true then some (x13==0) else some false) (fun x1a=>if x1a=true then bd (idx x2.kids 1) fun x1b=>bd2 (rec.impl_checker_value (⟨(⟨x1.d.rules⟩:f_),x1.b,x11⟩:a_2) x1b x12) fun r17 r1c=>some (.next (D_ x10 1,r1c,r17.at_,r17.code)) else some (.brk (x10,x11,x12,x13)))) n (r15,r16,r14.at_,r14.code)) (el (un4 fun x10 x11 x12 x13=>some ((⟨x12,x13⟩:V_),x11))<|fun r1d=>some r1d))
def g_S (n:Nat) (rec:f_t) (x1:a_2) (x2:e_) (x3:Int):Option (V_×Int) :=
 bd (idx x2.kids 0) fun x13=>bd3 (e_6 x1 x13 x3) fun r14 r10 r11=>if (r10.code != 0)=true then some (r10,r11) else bd (E_ (σ:=Unit) (ρ:=V_×Int) (fun k12=>(fun (_:Unit)=>bd (idx x2.tags (k12:Int)) fun x15=>if (x15==r14)=true then bd (idx x2.kids ((k12+1:Nat):Int)) fun x16=>bd2 (rec.impl_checker_value (⟨(⟨x1.d.rules⟩:f_),x1.b,r11⟩:a_2) x16 r10.at_) fun r17 r18=>some (.ret (r17,r18)) else some (.next ()))) x2.tags.length 0 ()) (el (fun (_:Unit)=>some ((⟨x3,3⟩:V_),r11))<|fun r19=>some r19)
def g_T (n:Nat) (rec:f_t) (x1:a_2) (x2:e_) (x3:Int):Option (V_×Int) :=
 bd (d_A x1 x3 1) fun r10=>bd (α:=Bool) (if (r10.code != 0)=true then some true else bd (idx x1.b x3) fun x11=>some<|(byteI x11)==(byteI (0:UInt8))) (fun x12=>if x12=true then some (r10,x1.applied) else bd (idx x1.b x3) fun x13=>if (decide<|(byteI (1:UInt8))<(byteI x13))=true then some ((⟨x3,4⟩:V_),x1.applied) else bd (idx x2.kids 0) fun x14=>bd2 (rec.impl_checker_value x1 x14 r10.at_) fun r15 r16=>some (r15,r16))
def g_U (n:Nat) (rec:f_t) (x1:a_2) (x2:e_) (x3:Int):Option (V_×Int) :=
 bd (idx x2.kids 0) fun x13=>bd2 (rec.impl_checker_value x1 x13 x3) fun r10 r11=>if (r10.code != 0)=true then some (r10,r11) else bd (d_A (⟨(⟨x1.d.rules⟩:f_),x1.b,r11⟩:a_2) r10.at_ 1) fun r12=>bd (α:=Bool) (if (r12.code==0)=true then bd (idx x1.b r10.at_) fun x14=>bd (slc x1.b x3 r10.at_) fun x15=>bd (f_r x15) fun r16=>some ((byteI x14) != r16) else some false) (fun x17=>if x17=true then some ((⟨r10.at_,5⟩:V_),r11) else some (r12,r11))
def a_v:Nat→f_t
 | 0=>⟨fun _ _ _=>none,fun _ _ _=>none,fun _ _ _=>none,fun _ _ _=>none,fun _ _ _=>none⟩
 | n+1=>⟨g_Q n<|a_v n,g_R n<|a_v n,g_S n<|a_v n,g_T n<|a_v n,g_U n<|a_v n⟩
def m_E (n:Nat):=(a_v n).impl_checker_value
def g_V (n:Nat) (x1:f_) (x2:Int) (x3:List UInt8) (x4:Int):Option (Int×Int) :=
 bd (α:=Bool) (bd (f_q n x1 x2) fun r11=>if (!r11)=true then some true else if (decide<|x4<0)=true then some true else if (decide<|(x3.length:Int)<x4)=true then some true else some (decide<|400<(x3.length:Int))) (fun x12=>if x12=true then some (0,8) else bd2 (m_E n (⟨(⟨x1.rules⟩:f_),x3,0⟩:a_2) x2 x4) fun r10 r13=>some (r10.at_,r10.code))
def c_N (n:Nat) (x1:a_Z) (x2:Int):Option (Bool×Int) :=
 bd2 (g_V n (⟨x1.d.rules⟩:f_) x2 x1.b x1.at_) fun r10 r11=>some (r11==0,r10)
def f_u (n:Nat) (x1:a_Z) (x2:Int):Option (Int×Bool×Int) :=
 bd2 (c_N n x1 x2) fun r11 r10=>if (!r11)=true then some (0,false,r10) else bd (slc x1.b x1.at_ r10) fun x12=>bd (idx x1.d.rules x2) fun x13=>bd (e_G x12 x13.little) fun r14=>some (r14,true,r10)
def g_W (n:Nat) (x1:a_Z) (x2:e_) (x3:Str):Option (Bool×Int×Int) :=
 bd2 (f_n x3) fun r10 r16=>bd (idx x2.kids 0) fun x17=>bd3 (f_u n x1 x17) fun r11 r18 r12=>bd (α:=Bool) (if (!r16)=true then some true else if (!r18)=true then some true else if (decide<|40<r11)=true then some true else some (decide<|r11≤r10)) (fun x19=>if x19=true then some (false,x1.rule,r12) else bd (Y_ (σ:=Int×Int) (ρ:=Bool×Int×Int) (un2 fun x13 x14=>if (decide<|0<x13)=true then bd (idx x2.kids 1) fun x1a=>bd2 (c_N n (⟨(⟨x1.d.rules⟩:f_),x1.b,x1.rule,x14⟩:a_Z) x1a) fun r1b r15=>if (!r1b)=true then some (.ret (false,x1.rule,r15)) else some (.next (D_ x13 1,r15)) else bd (idx x2.kids 1) fun x1c=>some<|.ret (true,x1c,x14)) n (r10,r12)) (el (fun _=>none)<|fun r1d=>some r1d))
def g_X (n:Nat) (x1:a_Z) (x2:e_) (x3:Str):Option (Bool×Int×Int) :=
 bd (E_ (σ:=Int) (ρ:=Bool×Int×Int) (fun k11=>(fun x10=>bd (idx x2.names (k11:Int)) fun x13=>if (x13.b==x3.b)=true then bd (idx x2.kids (k11:Int)) fun x14=>some (.ret (true,x14,x10)) else bd (α:=Bool×Int) (bd (e_F x2.names x3) fun r15=>if (!r15)=true then some (true,x10) else bd (idx x2.kids (k11:Int)) fun x16=>bd2 (c_N n (⟨(⟨x1.d.rules⟩:f_),x1.b,x1.rule,x10⟩:a_Z) x16) fun r17 r18=>some (!r17,r18)) (un2 fun x19 x12=>if x19=true then some (.ret (false,x1.rule,x12)) else some (.next x12)))) x2.names.length 0 x1.at_) (el (fun x10=>some (false,x1.rule,x10))<|fun r1a=>some r1a)
def i_J (x1:Int) (x2:Int):Option Bool :=
 some (x1==x2)
def g_Y (x1:List Int) (x2c0:Int):Option Int :=
 bd (E_ (σ:=Unit) (ρ:=Int) (fun k10=>(fun (_:Unit)=>bd (idx x1 (k10:Int)) fun x11=>bd (i_J x11 x2c0) fun r12=>if r12=true then some (.ret (k10:Int)) else some (.next ()))) x1.length 0 ()) (el (fun (_:Unit)=>some (-1))<|fun r13=>some r13)
def g_Z (n:Nat) (x1:a_Z) (x2:e_):Option (Bool×Int×Int) :=
 bd (idx x2.kids 0) fun x12=>bd3 (f_u n x1 x12) fun r13 r14 r10=>bd (g_Y x2.tags r13) fun r11=>bd (α:=Bool) (if (!r14)=true then some true else some (decide<|r11<0)) (fun x15=>if x15=true then some (false,x1.rule,r10) else bd (idx x2.kids<|g_ r11 1) fun x16=>some (true,x16,r10))
def f_v (n:Nat) (x1:a_Z) (x2:Str):Option (Bool×Int×Int) :=
 bd (idx x1.d.rules x1.rule) fun x10=>if (x10.kind==5)=true then bd3 (g_W n x1 x10 x2) fun r11 r12 r13=>some (r11,r12,r13) else if (x10.kind==6)=true then bd3 (g_X n x1 x10 x2) fun r14 r15 r16=>some (r14,r15,r16) else bd (α:=Bool) (if (x10.kind==7)=true then some (x2.b==(⟨[42]⟩:Str).b) else some false) (fun x17=>if x17=true then bd3 (g_Z n x1 x10) fun r18 r19 r1a=>some (r18,r19,r1a) else bd (α:=Bool) (if (x10.kind==8)=true then some (x2.b==(⟨[63]⟩:Str).b) else some false) (fun x1b=>bd (α:=Sum Int<|Bool×Int×Int) (if x1b=true then bd (α:=Bool) (if (decide<|(x1.b.length:Int)≤x1.at_)=true then some true else bd (idx x1.b x1.at_) fun x1c=>some<|(byteI x1c) != (byteI (1:UInt8))) (fun x1d=>if x1d=true then some (.inr (false,x1.rule,x1.at_)) else some (.inl<|g_ x1.at_ 1)) else bd (α:=Bool) (if (x10.kind==9)=true then some (x2.b==(⟨[43]⟩:Str).b) else some false) (fun x1e=>if x1e=true then some (.inl x1.at_) else some (.inr (false,x1.rule,x1.at_))))<|el (fun x1f=>bd (idx x10.kids 0) fun x1g=>some (true,x1g,x1f)) some))
def f_w (n:Nat) (x1:f_) (x2:List UInt8) (x3:Str):Option (K_×Bool) :=
 bd2 (g_K n x3) fun r12 r13=>bd (α:=Bool) (if (!r13)=true then some true else bd (f_o n x1) fun r14=>if (!r14)=true then some true else some (decide<|400<(x2.length:Int))) (fun x15=>if x15=true then some ((⟨(⟨[]⟩:Str),0,0,0⟩:K_),false) else bd (f_p x1) fun r16=>bd (E_ (σ:=Int×Int) (ρ:=K_×Bool) (fun k17=>un2 fun x10 x11=>bd (idx r12 (k17:Int)) fun x18=>bd3 (f_v n (⟨(⟨x1.rules⟩:f_),x2,x10,x11⟩:a_Z) x18) fun r19 r1a r1b=>if (!r19)=true then some (.ret ((⟨(⟨[]⟩:Str),0,0,0⟩:K_),false)) else some (.next (r1a,r1b))) r12.length 0 (r16,0)) (el (un2 fun x10 x11=>bd2 (c_N n (⟨(⟨x1.rules⟩:f_),x2,x10,x11⟩:a_Z) x10) fun r1c r1d=>if (!r1c)=true then some ((⟨(⟨[]⟩:Str),0,0,0⟩:K_),false) else some ((⟨x3,x10,x11,r1d⟩:K_),true))<|fun r1e=>some r1e))
def h_0 (x1:List UInt8) (x2:Int) (x3:Int) (x4:List UInt8):Option ((List UInt8)×Bool) :=
 bd (α:=Bool) (if (decide<|x2<0)=true then some true else if (decide<|x3<0)=true then some true else if (decide<|(x1.length:Int)<x2)=true then some true else some (decide<|(D_ (x1.length:Int) x2)<x3)) (fun x10=>if x10=true then bd (app ([]:List UInt8) x1) fun x11=>some (x11,false) else bd (slc x1 0 x2) fun x12=>bd (app ([]:List UInt8) x12) fun x13=>bd (app x13 x4) fun x14=>bd (slc x1 (g_ x2 x3) (x1.length:Int)) fun x15=>bd (app x14 x15) fun x16=>some (x16,true))
def b_M (x1:Int) (x2:Int):Option (Option<|Int×Int) :=
 some (some (x1,x2))
def e_7 (x1:a_t) (x2:Int) (x3:Int):Option ((List UInt8)×(Option<|Int×Int)) :=
 if (decide<|(D_ (x1.b.length:Int) x2)<x3)=true then bd (b_M x2 1) fun r10=>some (([]:List UInt8),r10) else bd (slc x1.b x2<|g_ x2 x3) fun x11=>some (x11,none)
def e_8 (x1:a_t) (x2:Int) (x3:Int):Option (Int×Int×(Option<|Int×Int)) :=
 bd (idx x1.d.rules x2) fun x10=>bd2 (e_7 x1 x3 x10.size) fun r12 r11=>if r11.isSome=true then some (0,x3,r11) else bd (e_G r12 x10.little) fun r13=>some (r13,g_ x3 x10.size,none)
def h_1 (x1:a_t) (x2:e_) (x3:Int):Option (Int×(Option<|Int×Int)) :=
 bd (E_ (σ:=Unit) (ρ:=Int×(Option<|Int×Int)) (fun k10=>(fun (_:Unit)=>bd (idx x2.bytes (k10:Int)) fun x11=>if (decide<|(x1.b.length:Int)≤(g_ x3 (k10:Int)))=true then bd (b_M x3 1) fun r12=>some (.ret (x3,r12)) else bd (idx x1.b<|g_ x3 (k10:Int)) fun x13=>if ((byteI x13) != (byteI x11))=true then bd (b_M (g_ x3 (k10:Int)) 2) fun r14=>some (.ret (x3,r14)) else some (.next ()))) x2.bytes.length 0 ()) (el (fun (_:Unit)=>some (g_ x3 (x2.bytes.length:Int),none))<|fun r15=>some r15)
def f_x (x1:a_t) (x2:Int) (x3:Int):Option (Val×Int×(Option<|Int×Int)) :=
 bd2 (e_7 x1 x2 x3) fun r11 r10=>if r10.isSome=true then some ((⟨0,([]:List UInt8),([]:List Val)⟩:Val),x2,r10) else bd (app ([]:List UInt8) r11) fun x12=>some ((⟨0,x12,([]:List Val)⟩:Val),g_ x2 x3,none)
structure e_H where
 impl_fileReader_value:a_t→Int→Int→Option (Val×Int×(Option<|Int×Int))
 impl_fileReader_array:a_t→e_→Int→Option (Val×Int×(Option<|Int×Int))
 impl_fileReader_items:a_t→Val→(List Int)→Int→Option (Val×Int×(Option<|Int×Int))
 impl_fileReader_choice:a_t→e_→Int→Option (Val×Int×(Option<|Int×Int))
 impl_fileReader_option:a_t→e_→Int→Option (Val×Int×(Option<|Int×Int))
 impl_fileReader_checked:a_t→e_→Int→Option (Val×Int×(Option<|Int×Int))
def h_2 (n:Nat) (rec:e_H) (x1:a_t) (x2:Int) (x3:Int):Option (Val×Int×(Option<|Int×Int)) :=
 bd (idx x1.d.rules x2) fun x10=>if (x10.kind==1)=true then bd3 (e_8 x1 x2 x3) fun r12 r13 r14=>some ((⟨r12,([]:List UInt8),([]:List Val)⟩:Val),r13,r14) else if (x10.kind==2)=true then bd2 (h_1 x1 x10 x3) fun r15 r16=>some ((⟨0,([]:List UInt8),([]:List Val)⟩:Val),r15,r16) else if (x10.kind==3)=true then bd3 (f_x x1 x3 x10.size) fun r17 r18 r19=>some (r17,r18,r19) else if (x10.kind==4)=true then bd (idx x10.kids 0) fun x1a=>bd3 (e_8 x1 x1a x3) fun r1b r1c r11=>if r11.isSome=true then some ((⟨0,([]:List UInt8),([]:List Val)⟩:Val),x3,r11) else bd3 (f_x x1 r1c r1b) fun r1d r1e r1f=>some (r1d,r1e,r1f) else if (x10.kind==5)=true then bd3 (rec.impl_fileReader_array x1 x10 x3) fun r1g r1h r1i=>some (r1g,r1h,r1i) else if (x10.kind==6)=true then bd3 (rec.impl_fileReader_items x1 (⟨0,([]:List UInt8),([]:List Val)⟩:Val) x10.kids x3) fun r1j r1k r1l=>some (r1j,r1k,r1l) else if (x10.kind==7)=true then bd3 (rec.impl_fileReader_choice x1 x10 x3) fun r1m r1n r1o=>some (r1m,r1n,r1o) else if (x10.kind==8)=true then bd3 (rec.impl_fileReader_option x1 x10 x3) fun r1p r1q r1r=>some (r1p,r1q,r1r) else if (x10.kind==9)=true then bd3 (rec.impl_fileReader_checked x1 x10 x3) fun r1s r1t r1u=>some (r1s,r1t,r1u) else bd (idx x10.bytes 0) fun x1v=>bd3 (f_s n x1.b x3 x1v) fun r1w r1x r1y=>if (!r1y)=true then bd (b_M x3 1) fun r1z=>some ((⟨0,([]:List UInt8),([]:List Val)⟩:Val),x3,r1z) else some ((⟨0,r1w,([]:List Val)⟩:Val),r1x,none)
def h_3 (n:Nat) (rec:e_H) (x1:a_t) (x2:e_) (x3:Int):Option (Val×Int×(Option<|Int×Int)) :=
 bd (idx x2.kids 0) fun x14=>bd3 (e_8 x1 x14 x3) fun r11 r15 r12=>if r12.isSome=true then some ((⟨0,([]:List UInt8),([]:List Val)⟩:Val),x3,r12) else if (decide<|40<r11)=true then bd (b_M x3 6) fun r16=>some ((⟨0,([]:List UInt8),([]:List Val)⟩:Val),x3,r16) else bd (mk0 0 r11) fun x13=>bd (E_ (σ:=List Int) (ρ:=Val×Int×(Option<|Int×Int)) (fun k17=>(fun x10=>bd (idx x2.kids 1) fun x18=>bd (upd x10 (k17:Int) x18) fun x19=>some<|.next x19)) x13.length 0 x13)<|el (fun x10=>bd3 (rec.impl_fileReader_items x1 (⟨0,([]:List UInt8),([]:List Val)⟩:Val) x10 r15) fun r1a r1b r1c=>some (r1a,r1b,r1c))<|fun r1d=>some r1d
def h_4 (n:Nat) (rec:e_H) (x1:a_t) (x2:Val) (x3:List Int) (x4:Int):Option (Val×Int×(Option<|Int×Int)) :=
 bd (E_ (σ:=Int×(List Val)) (ρ:=Val×Int×(Option<|Int×Int)) (fun k13=>un2 fun x10 x11=>bd (idx x3 (k13:Int)) fun x14=>bd3 (rec.impl_fileReader_value x1 x14 x10) fun r15 r16 r12=>if r12.isSome=true then some (.ret ((⟨0,([]:List UInt8),([]:List Val)⟩:Val),x10,r12)) else bd (psh x11 r15) fun x17=>some<|.next (r16,x17)) x3.length 0 (x4,x2.items)) (el (un2 fun x10 x11=>some ((⟨x2.number,x2.bytes,x11⟩:Val),x10,none))<|fun r18=>some r18)
def h_5 (n:Nat) (rec:e_H) (x1:a_t) (x2:e_) (x3:Int):Option (Val×Int×(Option<|Int×Int)) :=
 bd (idx x2.kids 0) fun x13=>bd3 (e_8 x1 x13 x3) fun r11 r14 r12=>if r12.isSome=true then some ((⟨0,([]:List UInt8),([]:List Val)⟩:Val),x3,r12) else bd (E_ (σ:=Unit) (ρ:=Val×Int×(Option<|Int×Int)) (fun k10=>(fun (_:Unit)=>bd (idx x2.tags (k10:Int)) fun x15=>if (x15==r11)=true then bd (slc x2.kids ((k10+1:Nat):Int)<|g_ (k10:Int) 2) fun x16=>bd3 (rec.impl_fileReader_items x1 (⟨r11,([]:List UInt8),([]:List Val)⟩:Val) x16 r14) fun r17 r18 r19=>some (.ret (r17,r18,r19)) else some (.next ()))) x2.tags.length 0 ()) (el (fun (_:Unit)=>bd (b_M x3 3) fun r1a=>some ((⟨0,([]:List UInt8),([]:List Val)⟩:Val),x3,r1a))<|fun r1b=>some r1b)
def h_6 (n:Nat) (rec:e_H) (x1:a_t) (x2:e_) (x3:Int):Option (Val×Int×(Option<|Int×Int)) :=
 bd2 (e_7 x1 x3 1) fun r10 r11=>if r11.isSome=true then some ((⟨0,([]:List UInt8),([]:List Val)⟩:Val),x3,r11) else bd (idx r10 0) fun x12=>if (decide<|(byteI (1:UInt8))<(byteI x12))=true then bd (b_M x3 4) fun r13=>some ((⟨0,([]:List UInt8),([]:List Val)⟩:Val),x3,r13) else bd (idx r10 0) fun x14=>if ((byteI x14)==(byteI (0:UInt8)))=true then some ((⟨0,([]:List UInt8),([]:List Val)⟩:Val),g_ x3 1,none) else bd3 (rec.impl_fileReader_items x1 (⟨0,([]:List UInt8),([]:List Val)⟩:Val) x2.kids<|g_ x3 1) fun r15 r16 r17=>some (r15,r16,r17)
def h_7 (n:Nat) (rec:e_H) (x1:a_t) (x2:e_) (x3:Int):Option (Val×Int×(Option<|Int×Int)) :=
 bd3 (rec.impl_fileReader_items x1 (⟨0,([]:List UInt8),([]:List Val)⟩:Val) x2.kids x3) fun r13 r10 r11=>if r11.isSome=true then some ((⟨0,([]:List UInt8),([]:List Val)⟩:Val),x3,r11) else bd2 (e_7 x1 r10 1) fun r14 r12=>if r12.isSome=true then some ((⟨0,([]:List UInt8),([]:List Val)⟩:Val),x3,r12) else bd (idx r14 0) fun x15=>bd (slc x1.b x3 r10) fun x16=>bd (f_r x16) fun r17=>if ((byteI x15) != r17)=true then bd (b_M r10 5) fun r18=>some ((⟨0,([]:List UInt8),([]:List Val)⟩:Val),x3,r18) else some (r13,g_ r10 1,none)
def a_a:Nat→e_H
 | 0=>⟨fun _ _ _=>none,fun _ _ _=>none,fun _ _ _ _=>none,fun _ _ _=>none,fun _ _ _=>none,fun _ _ _=>none⟩
 | n+1=>⟨h_2 n<|a_a n,h_3 n<|a_a n,h_4 n<|a_a n,h_5 n<|a_a n,h_6 n<|a_a n,h_7 n<|a_a n⟩
def i_K (n:Nat):=(a_a n).impl_fileReader_value
def e_I (n:Nat):=(a_a n).impl_fileReader_items
def h_8 (n:Nat) (x1:f_) (x2:Int) (x3:List UInt8) (x4:Int):Option (Val×Int×Int) :=
 bd (α:=Bool) (bd (f_q n x1 x2) fun r11=>if (!r11)=true then some true else if (decide<|x4<0)=true then some true else if (decide<|(x3.length:Int)<x4)=true then some true else some (decide<|400<(x3.length:Int))) (fun x12=>if x12=true then some ((⟨0,([]:List UInt8),([]:List Val)⟩:Val),0,8) else bd3 (i_K n (⟨(⟨x1.rules⟩:f_),x3⟩:a_t) x2 x4) fun r13 r14 r10=>if r10.isSome=true then (bd2 r10 fun r15 r16=>some ((⟨0,([]:List UInt8),([]:List Val)⟩:Val),r15,r16)) else some (r13,r14,0))
def h_9 (n:Nat) (x1:f_) (x2:List UInt8):Option (Val×Int×Int) :=
 bd (α:=Int×(List UInt8)×(List Val)×Int×Int) (bd (f_p x1) fun r13=>bd3 (h_8 n x1 r13 x2 0) fun r10 r14 r15=>some (r10.number,r10.bytes,r10.items,r14,r15)) (un5 fun x16 x17 x18 x11 x12=>bd (α:=Bool) (if (x12==0)=true then some (decide<|x11<(x2.length:Int)) else some false) (fun x19=>if x19=true then some ((⟨0,([]:List UInt8),([]:List Val)⟩:Val),x11,7) else some ((⟨x16,x17,x18⟩:Val),x11,x12)))
def h_a (n:Nat) (x1:f_) (x2:List UInt8):Option Bool :=
 bd3 (h_9 n x1 x2) fun r11 r12 r10=>some<|r10==0
def h_b (x1:List UInt8) (x2:K_):Option (List UInt8) :=
 bd (α:=Bool) (if (decide<|x2.start<0)=true then some true else if (decide<|x2.end_<x2.start)=true then some true else some (decide<|(x1.length:Int)<x2.end_)) (fun x10=>if x10=true then some ([]:List UInt8) else bd (slc x1 x2.start x2.end_) fun x11=>bd (app ([]:List UInt8) x11) fun x12=>some x12)
def k_p (x1:List UInt8) (x2:List UInt8):Option Bool :=
 some ((⟨x1⟩:Str).b==(⟨x2⟩:Str).b)
def i_L (x1:List UInt8) (x2:List UInt8):Option Bool :=
 bd (k_p x1 x2) fun r10=>some r10
def h_c (n:Nat) (x1:f_) (x2:List UInt8) (x3:Str) (x4:List UInt8):Option ((List UInt8)×Bool) :=
 bd2 (f_w n x1 x2 x3) fun r11 r12=>bd (α:=Sum Unit<|(List UInt8)×Bool) (if r12=true then bd2 (h_0 x2 r11.start (D_ r11.end_ r11.start) x4) fun r10 r1a=>bd2 (f_w n x1 r10 x3) fun r13 r14=>bd (α:=Bool) (if r14=true then bd (h_a n x1 r10) fun r15=>if r15=true then bd (h_b r10 r13) fun r16=>bd (i_L r16 x4) fun r17=>some r17 else some false else some false) (fun x18=>if x18=true then some (.inr (r10,true)) else some (.inl ())) else some (.inl ()))<|el (fun (_:Unit)=>bd (app ([]:List UInt8) x2) fun x19=>some (x19,false)) some
structure m_F where
 spec_l19Build:f_→Int→(List UInt8)→Int→Str→Option ((List K_)×Int)
def h_d (n:Nat) (rec:m_F) (x1:f_) (x2:Int) (x3:List UInt8) (x4:Int) (x5:Str):Option ((List K_)×Int) :=
 bd (idx x1.rules x2) fun x10=>bd3 (d_z n x1 x2 x3 x4) fun r12 r13 r1j=>bd (α:=Bool) (if (x10.kind==5)=true then some (x10.kind==5) else some (x10.kind==7)) (fun x16=>bd (α:=Int) (if x16=true then bd (idx x10.kids 0) fun x17=>bd3 (c_j x1 x17 x3 x4) fun r1k r18 r1l=>some r18 else bd (α:=Int) (if (x10.kind==8)=true then some (g_ x4 1) else some x4) (fun x19=>some x19))<|fun x1a=>bd (E_ (σ:=(List K_)×Int) (ρ:=(List K_)×Int) (fun k14=>un2 fun x11 x15=>bd (cat x5 (⟨[47]⟩:Str)) fun x1b=>bd (b_p x10 r12.number (k14:Int)) fun r1c=>bd (d_7 n x10 (k14:Int)) fun r1d=>bd (cat x1b r1d) fun x1e=>bd2 (rec.spec_l19Build x1 r1c x3 x15 x1e) fun r1f r1g=>bd (app x11 r1f) fun x1h=>some<|.next (x1h,r1g)) r12.items.length 0 ([(⟨x5,x2,x4,r13⟩:K_)],x1a))<|el (un2 fun x11 x15=>some (x11,r13))<|fun r1i=>some r1i)
def e_9:Nat→m_F
 | 0=>⟨fun _ _ _ _ _=>none⟩
 | n+1=>⟨h_d n<|e_9 n⟩
def i_M (n:Nat):=(e_9 n).spec_l19Build
def h_e (n:Nat) (x1:f_) (x2:List UInt8):Option ((List K_)×Bool) :=
 bd (e_C n x1 x2) fun r10=>if (!r10)=true then some (([]:List K_),false) else bd (e_A x1) fun r11=>bd2 (i_M n x1 r11 x2 0 (⟨[]⟩:Str)) fun r12 r13=>some (r12,true)
def e_J (x1:Int) (x2:Int):Option Int :=
 if (decide<|x2<x1)=true then some x2 else some x1
def f_y (n:Nat) (x1:Int) (x2:Int):Option (List UInt8) :=
 bd (α:=Bool) (bd (a_T x2 1 4) fun r12=>if (!r12)=true then some true else bd (d_y x2) fun r13=>bd (a_T x1 0<|D_ r13 1) fun r14=>some (!r14)) (fun x15=>if x15=true then some ([]:List UInt8) else bd (Y_ (σ:=(List UInt8)×Int) (ρ:=List UInt8) (un2 fun x11 x10=>if (decide<|0≤x10)=true then bd (nn<|a_9 8 x10) fun u18=>bd (psh x11<|mkB<|c_9 .i64 x1<|a_9 8 x10) fun x16=>some (.next (x16,D_ x10 1)) else some (.brk (x11,x10))) n (([]:List UInt8),D_ x2 1)) (el (un2 fun x11 x10=>some x11)<|fun r17=>some r17))
end Go.Vw
namespace Go.Vw
def h_i (x1:List UInt8):Option Bool :=
 some (decide<|1048576<(x1.length:Int))
def f_D (n:Nat) (x1:List UInt8):Option u_ :=
 bd (Y_ (σ:=Int×Int) (ρ:=u_) (un2 fun x11 x10=>bd (α:=Bool) (if (decide<|x10<(x1.length:Int))=true then some (decide<|x10<4000) else some false) (fun x12=>if x12=true then bd (idx x1 x10) fun x13=>some (.next (a_w .i64 (· &&& ·) (g_ (g_ (a_9 x11 137)<|byteI x13) 11) 1073741823,g_ x10 1)) else some (.brk (x11,x10)))) n (g_ 193017 (x1.length:Int),0)) (el (un2 fun x11 x10=>some (⟨x1,0,x11⟩:u_))<|fun r14=>some r14)
def c_P (x1:u_):Option (Int×Int×Int) :=
 bd (α:=Int×Int) (if (decide<|x1.i<(x1.b.length:Int))=true then bd (idx x1.b x1.i) fun x10=>some (a_w .i64 (· &&& ·) (g_ (a_w .i64 (· &&& ·) (a_w .i64 (· ^^^ ·) (c_9 .i64 (g_ (a_9 x1.h 6364136223846793005) 1442695040888963407) 33)<|c_9 .i64 (g_ (a_9 x1.h 6364136223846793005) 1442695040888963407) 47) 255)<|byteI x10) 255,g_ x1.i 1) else some (a_w .i64 (· &&& ·) (a_w .i64 (· ^^^ ·) (c_9 .i64 (g_ (a_9 x1.h 6364136223846793005) 1442695040888963407) 33)<|c_9 .i64 (g_ (a_9 x1.h 6364136223846793005) 1442695040888963407) 47) 255,x1.i)) (un2 fun x11 x12=>some (x11,x12,g_ (a_9 x1.h 6364136223846793005) 1442695040888963407))
def a_s (x1:u_) (x2:Int):Option (Int×Int×Int) :=
 if (decide<|x2≤0)=true then some (0,x1.i,x1.h) else if (decide<|x2≤256)=true then bd3 (c_P x1) fun r10 r11 r12=>bd (nz x2) fun u1c=>some (b_8 r10 x2,r11,r12) else bd3 (c_P x1) fun r13 r14 r15=>bd3 (c_P (⟨x1.b,r14,r15⟩:u_)) fun r16 r17 r18=>bd3 (c_P (⟨x1.b,r17,r18⟩:u_)) fun r19 r1a r1b=>bd (nz x2) fun u1d=>some (b_8 (g_ (g_ (a_9 r13 65536)<|a_9 r16 256) r19) x2,r1a,r1b)
def c_Q (x1:u_) (x2:List Str):Option (Str×Int×Int) :=
 bd3 (a_s x1 (x2.length:Int)) fun r10 r11 r12=>bd (idx x2 r10) fun x13=>some (x13,r11,r12)
def d_D (x1:u_) (x2:Int):Option (Bool×Int×Int) :=
 bd3 (a_s x1 x2) fun r10 r11 r12=>some (r10==0,r11,r12)
def d_E (x1:u_) (x2:Int):Option ((List UInt8)×Int×Int) :=
 bd (E_ (σ:=(List UInt8)×Int×Int) (ρ:=(List UInt8)×Int×Int) (fun k18=>un3 fun x10 x11 x12=>bd3 (c_P (⟨x1.b,x11,x12⟩:u_)) fun r13 r14 r15=>bd (psh x10<|mkB r13) fun x16=>some<|.next (x16,r14,r15)) x2.toNat 0 (([]:List UInt8),x1.i,x1.h)) (el (un3 fun x10 x11 x12=>some (x10,x11,x12))<|fun r17=>some r17)
def e_a (x1:u_) (x2:List Int):Option (Int×Int×Int) :=
 bd3 (a_s x1 (x2.length:Int)) fun r10 r11 r12=>bd (idx x2 r10) fun x13=>some (x13,r11,r12)
def e_b (x1:u_) (x2:f_):Option (Int×Int×Int) :=
 bd (E_ (σ:=List Int) (ρ:=Int×Int×Int) (fun k11=>(fun x10=>bd (idx x2.rules (k11:Int)) fun x12=>bd (α:=List Int) (if (x12.kind==1)=true then bd (psh x10 (k11:Int)) fun x13=>some x13 else some x10)<|fun x14=>some<|.next x14)) x2.rules.length 0 ([]:List Int)) (el (fun x10=>bd3 (e_a x1 x10) fun r15 r16 r17=>some (r15,r16,r17))<|fun r18=>some r18)
def e_c (n:Nat) (x1:u_) (x2:f_) (x3:Int):Option (e_×Int×Int) :=
 bd3 (c_Q x1 [(⟨[97]⟩:Str),(⟨[105,116,101,109]⟩:Str),(⟨[98]⟩:Str),(⟨[104,101,97,100]⟩:Str),(⟨[120]⟩:Str)]) fun r1f r10 r11=>bd (b_Y n (x2.rules.length:Int)) fun r1g=>bd (cat r1f r1g) fun x1h=>bd (α:=Sum (Int×Int×Int×Bool×(List UInt8)×(List Str)×(List Int)×(List Int))<|e_×Int×Int) (if (x3==1)=true then bd3 (a_s (⟨x1.b,r10,r11⟩:u_) 3) fun r1c r1d r1e=>bd (α:=Int×Int×Bool) (if (decide<|1<(g_ 1 r1c))=true then bd3 (d_D (⟨x1.b,r1d,r1e⟩:u_) 2) fun r1i r1j r1k=>some (r1j,r1k,r1i) else some (r1d,r1e,false)) (un3 fun x1l x1m x1n=>some<|.inl (x1l,x1m,g_ 1 r1c,x1n,([]:List UInt8),([]:List Str),([]:List Int),([]:List Int))) else bd (α:=Sum (Int×Int×Int×(List UInt8)×(List Str)×(List Int)×(List Int))<|Sum (Int×Int×Int×Bool×(List UInt8)×(List Str)×(List Int)×(List Int))<|e_×Int×Int) (if (x3==2)=true then bd3 (a_s (⟨x1.b,r10,r11⟩:u_) 3) fun r1o r1p r1q=>bd3 (d_E (⟨x1.b,r1p,r1q⟩:u_)<|g_ 1 r1o) fun r1r r1s r1t=>some (.inl (r1s,r1t,0,r1r,([]:List Str),([]:List Int),([]:List Int))) else bd (α:=Sum (Int×Int×Int×(List UInt8)×(List Str)×(List Int)×(List Int))<|Sum (Int×Int×Int×(List UInt8)×(List Str)×(List Int)×(List Int))<|Sum (Int×Int×Int×Bool×(List UInt8)×(List Str)×(List Int)×(List Int))<|e_×Int×Int) (if (x3==3)=true then bd3 (a_s (⟨x1.b,r10,r11⟩:u_) 4) fun r1u r1v r1w=>some (.inl (r1v,r1w,g_ 1 r1u,([]:List UInt8),([]:List Str),([]:List Int),([]:List Int))) else bd (α:=Sum (Int×Int×(List UInt8)×(List Str)×(List Int)×(List Int))<|Sum (Int×Int×Int×(List UInt8)×(List Str)×(List Int)×(List Int))<|Sum (Int×Int×Int×(List UInt8)×(List Str)×(List Int)×(List Int))<|Sum (Int×Int×Int×Bool×(List UInt8)×(List Str)×(List Int)×(List Int))<|e_×Int×Int) (if (x3==4)=true then bd3 (e_b (⟨x1.b,r10,r11⟩:u_) x2) fun r1x r1y r1z=>some (.inl (r1y,r1z,([]:List UInt8),([]:List Str),([]:List Int),[r1x])) else bd (α:=Sum (Int×Int×(List UInt8)×(List Str)×(List Int)×(List Int))<|Sum (Int×Int×(List UInt8)×(List Str)×(List Int)×(List Int))<|Sum (Int×Int×Int×(List UInt8)×(List Str)×(List Int)×(List Int))<|Sum (Int×Int×Int×(List UInt8)×(List Str)×(List Int)×(List Int))<|Sum (Int×Int×Int×Bool×(List UInt8)×(List Str)×(List Int)×(List Int))<|e_×Int×Int) (if (x3==5)=true then bd3 (e_b (⟨x1.b,r10,r11⟩:u_) x2) fun r20 r21 r22=>bd3 (a_s (⟨x1.b,r21,r22⟩:u_) (x2.rules.length:Int)) fun r23 r24 r25=>some (.inl (r24,r25,([]:List UInt8),([]:List Str),([]:List Int),[r20,r23])) else bd (α:=Sum (Int×Int×(List UInt8)×(List Str)×(List Int)×(List Int))<|Sum (Int×Int×(List UInt8)×(List Str)×(List Int)×(List Int))<|Sum (Int×Int×(List UInt8)×(List Str)×(List Int)×(List Int))<|Sum (Int×Int×Int×(List UInt8)×(List Str)×(List Int)×(List Int))<|Sum (Int×Int×Int×(List UInt8)×(List Str)×(List Int)×(List Int))<|Sum (Int×Int×Int×Bool×(List UInt8)×(List Str)×(List Int)×(List Int))<|e_×Int×Int) (if (x3==6)=true then bd3 (a_s (⟨x1.b,r10,r11⟩:u_) 3) fun r26 r27 r28=>bd (Y_ (σ:=Int×Int×Int×(List Str)×(List Int)) (ρ:=e_×Int×Int) (un5 fun x12 x14 x15 x16 x17=>if (decide<|0<x12)=true then bd3 (c_Q (⟨x1.b,x14,x15⟩:u_) [(⟨[112]⟩:Str),(⟨[113]⟩:Str),(⟨[114]⟩:Str)]) fun r29 r2a r2b=>bd (b_Y n x12) fun r2c=>bd (cat r29 r2c) fun x2d=>bd (psh x16 x2d) fun x2e=>bd3 (a_s (⟨x1.b,r2a,r2b⟩:u_) (x2.rules.length:Int)) fun r2f r2g r2h=>bd (psh x17 r2f) fun x2i=>some (.next (D_ x12 1,r2g,r2h,x2e,x2i)) else some (.brk (x12,x14,x15,x16,x17))) n (g_ 1 r26,r27,r28,([]:List Str),([]:List Int))) (el (un5 fun x12 x14 x15 x16 x17=>some<|.inl (x14,x15,([]:List UInt8),x16,([]:List Int),x17))<|fun r2j=>some<|.inr<|.inr<|.inr<|.inr<|.inr<|.inr r2j) else bd (α:=Sum (Int×Int×(List UInt8)×(List Int)×(List Int))<|Sum (Int×Int×(List UInt8)×(List Str)×(List Int)×(List Int))<|Sum (Int×Int×(List UInt8)×(List Str)×(List Int)×(List Int))<|Sum (Int×Int×(List UInt8)×(List Str)×(List Int)×(List Int))<|Sum (Int×Int×Int×(List UInt8)×(List Str)×(List Int)×(List Int))<|Sum (Int×Int×Int×(List UInt8)×(List Str)×(List Int)×(List Int))<|Sum (Int×Int×Int×Bool×(List UInt8)×(List Str)×(List Int)×(List Int))<|e_×Int×Int) (if (x3==7)=true then bd3 (e_b (⟨x1.b,r10,r11⟩:u_) x2) fun r2k r2l r2m=>bd3 (a_s (⟨x1.b,r2l,r2m⟩:u_) 3) fun r2n r2o r2p=>bd (Y_ (σ:=Int×Int×Int×(List Int)×(List Int)) (ρ:=e_×Int×Int) (un5 fun x18 x19 x1a x13 x1b=>if (decide<|0<x18)=true then bd3 (a_s (⟨x1.b,x19,x1a⟩:u_) 4) fun r2q r2r r2s=>bd (psh x13<|g_ (a_9 4 (x13.length:Int)) r2q) fun x2t=>bd3 (a_s (⟨x1.b,r2r,r2s⟩:u_) (x2.rules.length:Int)) fun r2u r2v r2w=>bd (psh x1b r2u) fun x2x=>some (.next (D_ x18 1,r2v,r2w,x2t,x2x)) else some (.brk (x18,x19,x1a,x13,x1b))) n (g_ 1 r2n,r2o,r2p,([]:List Int),[r2k])) (el (un5 fun x18 x19 x1a x13 x1b=>some<|.inl (x19,x1a,([]:List UInt8),x13,x1b))<|fun r2y=>some<|.inr<|.inr<|.inr<|.inr<|.inr<|.inr<|.inr r2y) else bd (α:=Bool) (if (x3==8)=true then some (x3==8) else some (x3==9)) (fun x2z=>bd (α:=Int×Int×(List UInt8)×(List Int)) (if x2z=true then bd3 (a_s (⟨x1.b,r10,r11⟩:u_) (x2.rules.length:Int)) fun r30 r31 r32=>some (r31,r32,([]:List UInt8),[r30]) else bd (α:=Int×Int×(List UInt8)) (if (x3==10)=true then bd3 (e_a (⟨x1.b,r10,r11⟩:u_) [0,10,59,255]) fun r33 r34 r35=>some (r34,r35,[mkB r33]) else some (r10,r11,([]:List UInt8))) (un3 fun x36 x37 x38=>some (x36,x37,x38,([]:List Int))))<|un4 fun x39 x3a x3b x3c=>some<|.inl (x39,x3a,x3b,([]:List Int),x3c))) (el (un5 fun x3d x3e x3f x3g x3h=>some<|.inl (x3d,x3e,x3f,([]:List Str),x3g,x3h)) some)) (el (un6 fun x3i x3j x3k x3l x3m x3n=>some<|.inl (x3i,x3j,x3k,x3l,x3m,x3n)) some)) (el (un6 fun x3o x3p x3q x3r x3s x3t=>some<|.inl (x3o,x3p,x3q,x3r,x3s,x3t)) some)) (el (un6 fun x3u x3v x3w x3x x3y x3z=>some<|.inl (x3u,x3v,0,x3w,x3x,x3y,x3z)) some)) (el (un7 fun x40 x41 x42 x43 x44 x45 x46=>some<|.inl (x40,x41,x42,x43,x44,x45,x46)) some)) (el (un7 fun x47 x48 x49 x4a x4b x4c x4d=>some<|.inl (x47,x48,x49,false,x4a,x4b,x4c,x4d)) some))<|el (un8 fun x4e x4f x4g x4h x4i x4j x4k x4l=>some ((⟨x1h,x3,x4g,x4h,x4i,x4j,x4k,x4l⟩:e_),x4e,x4f)) some
def f_E (n:Nat) (x1:u_):Option (f_×Int×Int) :=
 bd3 (e_c n x1 (⟨([]:List e_)⟩:f_) 1) fun r14 r15 r16=>bd (psh ([]:List e_) r14) fun x17=>bd3 (a_s (⟨x1.b,r15,r16⟩:u_) 6) fun r18 r19 r1a=>bd (Y_ (σ:=Int×Int×Int×(List e_)) (ρ:=f_×Int×Int) (un4 fun x11 x12 x13 x10=>if (decide<|0<x11)=true then bd3 (a_s (⟨x1.b,x12,x13⟩:u_) 10) fun r1b r1c r1d=>bd3 (e_c n (⟨x1.b,r1c,r1d⟩:u_) (⟨x10⟩:f_)<|g_ 1 r1b) fun r1e r1f r1g=>bd (psh x10 r1e) fun x1h=>some (.next (D_ x11 1,r1f,r1g,x1h)) else some (.brk (x11,x12,x13,x10))) n (r18,r19,r1a,x17))<|el (un4 fun x11 x12 x13 x10=>some ((⟨x10⟩:f_),x12,x13))<|fun r1i=>some r1i
structure h_j where
 spec_l9Make:u_→f_→Int→Int→Option (Val×Int×Int)
def f_F (n:Nat) (rec:h_j) (x1:u_) (x2:f_) (x3:Int) (x4:Int):Option (Val×Int×Int) :=
 bd (idx x2.rules x3) fun x10=>bd (α:=Sum (Int×Int×Int×(List UInt8)×(List Val))<|Val×Int×Int) (if (x10.kind==1)=true then bd (d_y x10.size) fun r1g=>bd (e_J r1g 70000) fun r1h=>bd3 (a_s x1 r1h) fun r1i r1j r1k=>some (.inl (r1j,r1k,r1i,([]:List UInt8),([]:List Val))) else bd (α:=Sum (Int×Int×Int×(List UInt8)×(List Val))<|Sum (Int×Int×Int×(List UInt8)×(List Val))<|Val×Int×Int) (if (x10.kind==3)=true then bd3 (d_E x1 x10.size) fun r1l r1m r1n=>some (.inl (r1m,r1n,0,r1l,([]:List Val))) else bd (α:=Bool) (if (x10.kind==4)=true then some (x10.kind==4) else some (x10.kind==10)) (fun x1o=>bd (α:=Sum (Int×Int×Int×(List UInt8)×(List Val))<|Sum (Int×Int×Int×(List UInt8)×(List Val))<|Sum (Int×Int×Int×(List UInt8)×(List Val))<|Val×Int×Int) (if x1o=true then bd (e_J x4 6) fun r1p=>bd3 (a_s x1<|g_ r1p 1) fun r1q r1r r1s=>bd3 (d_E (⟨x1.b,r1r,r1s⟩:u_) r1q) fun r15 r16 r17=>bd (α:=Bool×Int×Int) (if (x10.kind==10)=true then if (decide<|0<(r15.length:Int))=true then bd3 (d_D (⟨x1.b,r16,r17⟩:u_) 2) fun r1t r1u r1v=>some (r1t,r1u,r1v) else some (false,r16,r17) else some (false,r16,r17)) (un3 fun x1w x1b x1c=>bd (α:=Int×Int×(List UInt8)) (if x1w=true then bd (idx x10.bytes 0) fun x1x=>bd3 (e_a (⟨x1.b,x1b,x1c⟩:u_) [byteI x1x,92]) fun r1y r1z r20=>bd (upd r15 0<|mkB r1y) fun x21=>some (r1z,r20,x21) else some (x1b,x1c,r15))<|un3 fun x22 x23 x24=>some<|.inl (x22,x23,0,x24,([]:List Val))) else bd (α:=Sum (Int×Int×Int×(List Val))<|Sum (Int×Int×Int×(List UInt8)×(List Val))<|Sum (Int×Int×Int×(List UInt8)×(List Val))<|Sum (Int×Int×Int×(List UInt8)×(List Val))<|Val×Int×Int) (if (x10.kind==5)=true then bd (e_J x4 3) fun r25=>bd3 (a_s x1<|g_ r25 1) fun r26 r27 r28=>bd (Y_ (σ:=Int×Int×Int×(List Val)) (ρ:=Val×Int×Int) (un4 fun x11 x12 x13 x14=>if (decide<|0<x11)=true then bd (idx x10.kids 1) fun x29=>bd3 (rec.spec_l9Make (⟨x1.b,x12,x13⟩:u_) x2 x29<|c_4 x4 2) fun r2a r2b r2c=>bd (psh x14 r2a) fun x2d=>some (.next (D_ x11 1,r2b,r2c,x2d)) else some (.brk (x11,x12,x13,x14))) n (r26,r27,r28,([]:List Val))) (el (un4 fun x11 x12 x13 x14=>some<|.inl (x12,x13,0,x14))<|fun r2e=>some<|.inr<|.inr<|.inr<|.inr r2e) else bd (α:=Sum (Int×Int×Int×(List Val))<|Sum (Int×Int×Int×(List Val))<|Sum (Int×Int×Int×(List UInt8)×(List Val))<|Sum (Int×Int×Int×(List UInt8)×(List Val))<|Sum (Int×Int×Int×(List UInt8)×(List Val))<|Val×Int×Int) (if (x10.kind==6)=true then bd (E_ (σ:=Int×Int×(List Val)) (ρ:=Val×Int×Int) (fun k2f=>un3 fun x18 x19 x1a=>bd (idx x10.kids (k2f:Int)) fun x2g=>bd3 (rec.spec_l9Make (⟨x1.b,x18,x19⟩:u_) x2 x2g<|c_4 x4 2) fun r2h r2i r2j=>bd (psh x1a r2h) fun x2k=>some<|.next (r2i,r2j,x2k)) x10.kids.length 0 (x1.i,x1.h,([]:List Val))) (el (un3 fun x18 x19 x1a=>some<|.inl (x18,x19,0,x1a))<|fun r2l=>some<|.inr<|.inr<|.inr<|.inr<|.inr r2l) else bd (α:=Int×Int×Int×(List Val)) (if (x10.kind==7)=true then bd3 (a_s x1 (x10.tags.length:Int)) fun r1d r2m r2n=>bd (idx x10.tags r1d) fun x2o=>bd (idx x10.kids<|g_ r1d 1) fun x2p=>bd3 (rec.spec_l9Make (⟨x1.b,r2m,r2n⟩:u_) x2 x2p<|c_4 x4 2) fun r2q r2r r2s=>some (r2r,r2s,x2o,[r2q]) else bd (α:=Int×Int×(List Val)) (if (x10.kind==8)=true then bd3 (d_D x1 2) fun r2t r1e r1f=>bd (α:=Int×Int×(List Val)) (if r2t=true then bd (idx x10.kids 0) fun x2u=>bd3 (rec.spec_l9Make (⟨x1.b,r1e,r1f⟩:u_) x2 x2u<|c_4 x4 2) fun r2v r2w r2x=>some (r2w,r2x,[r2v]) else some (r1e,r1f,([]:List Val))) (un3 fun x2y x2z x30=>some (x2y,x2z,x30)) else bd (α:=Int×Int×(List Val)) (if (x10.kind==9)=true then bd (idx x10.kids 0) fun x31=>bd3 (rec.spec_l9Make x1 x2 x31<|c_4 x4 2) fun r32 r33 r34=>some (r33,r34,[r32]) else some (x1.i,x1.h,([]:List Val))) (un3 fun x35 x36 x37=>some (x35,x36,x37))) (un3 fun x38 x39 x3a=>some (x38,x39,0,x3a))) (un4 fun x3b x3c x3d x3e=>some<|.inl (x3b,x3c,x3d,x3e))) (el (un4 fun x3f x3g x3h x3i=>some<|.inl (x3f,x3g,x3h,x3i)) some)) (el (un4 fun x3j x3k x3l x3m=>some<|.inl (x3j,x3k,x3l,([]:List UInt8),x3m)) some))<|el (un5 fun x3n x3o x3p x3q x3r=>some<|.inl (x3n,x3o,x3p,x3q,x3r)) some)) (el (un5 fun x3s x3t x3u x3v x3w=>some<|.inl (x3s,x3t,x3u,x3v,x3w)) some))<|el (un5 fun x3x x3y x3z x40 x41=>some ((⟨x3z,x40,x41⟩:Val),x3x,x3y)) some
def e_d:Nat→h_j
 | 0=>⟨fun _ _ _ _=>none⟩
 | n+1=>⟨f_F n<|e_d n⟩
def h_k (n:Nat):=(e_d n).spec_l9Make
def f_G (n:Nat) (x1:Int) (x2:Int):Option (List UInt8) :=
 bd (f_y n x1 x2) fun r12=>bd (Y_ (σ:=(List UInt8)×Int) (ρ:=List UInt8) (un2 fun x11 x10=>if (decide<|0≤x10)=true then bd (idx r12 x10) fun x13=>bd (psh x11 x13) fun x14=>some (.next (x14,D_ x10 1)) else some (.brk (x11,x10))) n (([]:List UInt8),D_ (r12.length:Int) 1))<|el (un2 fun x11 x10=>some x11)<|fun r15=>some r15
def d_F (n:Nat) (x1:e_) (x2:Int):Option (List UInt8) :=
 if x1.little=true then bd (f_G n x2 x1.size) fun r10=>some r10 else bd (f_y n x2 x1.size) fun r11=>some r11
structure k_y where
 spec_l11Print:f_→Int→Val→Option (List UInt8)
def f_H (n:Nat) (rec:k_y) (x1:f_) (x2:Int) (x3:Val):Option (List UInt8) :=
 bd (idx x1.rules x2) fun x10=>bd (E_ (σ:=List UInt8) (ρ:=List UInt8) (fun k14=>(fun x11=>bd (idx x3.items (k14:Int)) fun x15=>bd (b_p x10 x3.number (k14:Int)) fun r16=>bd (rec.spec_l11Print x1 r16 x15) fun r17=>bd (app x11 r17) fun x18=>some<|.next x18)) x3.items.length 0 ([]:List UInt8)) (el (fun x11=>if (x10.kind==1)=true then bd (d_F n x10 x3.number) fun r19=>some r19 else if (x10.kind==2)=true then bd (app ([]:List UInt8) x10.bytes) fun x1a=>some x1a else if (x10.kind==4)=true then bd (idx x10.kids 0) fun x1b=>bd (idx x1.rules x1b) fun x1c=>bd (d_F n x1c (x3.bytes.length:Int)) fun r1d=>bd (app r1d x3.bytes) fun x1e=>some x1e else if (x10.kind==5)=true then bd (idx x10.kids 0) fun x1f=>bd (idx x1.rules x1f) fun x1g=>bd (d_F n x1g (x3.items.length:Int)) fun r1h=>bd (app r1h x11) fun x1i=>some x1i else if (x10.kind==7)=true then bd (idx x10.kids 0) fun x1j=>bd (idx x1.rules x1j) fun x1k=>bd (d_F n x1k x3.number) fun r1l=>bd (app r1l x11) fun x1m=>some x1m else if (x10.kind==8)=true then bd (app [mkB (x3.items.length:Int)] x11) fun x1n=>some x1n else if (x10.kind==9)=true then bd (f_j x11) fun r1o=>bd (psh x11<|mkB r1o) fun x1p=>some x1p else if (x10.kind==10)=true then bd (E_ (σ:=List UInt8) (ρ:=List UInt8) (fun k13=>(fun x12=>bd (α:=Bool) (bd (idx x3.bytes (k13:Int)) fun x1q=>bd (idx x10.bytes 0) fun x1r=>if ((byteI x1q)==(byteI x1r))=true then some true else bd (idx x3.bytes (k13:Int)) fun x1s=>some<|(byteI x1s)==(byteI (92:UInt8))) (fun x1t=>bd (α:=List UInt8) (if x1t=true then bd (psh x12 (92:UInt8)) fun x1u=>some x1u else some x12)<|fun x1v=>bd (idx x3.bytes (k13:Int)) fun x1w=>bd (psh x1v x1w) fun x1x=>some<|.next x1x))) x3.bytes.length 0 x11) (el (fun x12=>bd (idx x10.bytes 0) fun x1y=>bd (psh x12 x1y) fun x1z=>some x1z)<|fun r20=>some r20) else if (x10.kind==3)=true then bd (app ([]:List UInt8) x3.bytes) fun x21=>some x21 else some x11)<|fun r22=>some r22)
def d_G:Nat→k_y
 | 0=>⟨fun _ _ _=>none⟩
 | n+1=>⟨f_H n<|d_G n⟩
def h_l (n:Nat):=(d_G n).spec_l11Print
structure k_z where
 spec_l18Paths:f_→Int→Val→Str→Option (List Str)
def f_I (n:Nat) (rec:k_z) (x1:f_) (x2:Int) (x3:Val) (x4:Str):Option (List Str) :=
 bd (E_ (σ:=List Str) (ρ:=List Str) (fun k10=>(fun x11=>bd (idx x1.rules x2) fun x12=>bd (idx x3.items (k10:Int)) fun x13=>bd (cat x4 (⟨[47]⟩:Str)) fun x14=>bd (b_p x12 x3.number (k10:Int)) fun r15=>bd (d_7 n x12 (k10:Int)) fun r16=>bd (cat x14 r16) fun x17=>bd (rec.spec_l18Paths x1 r15 x13 x17) fun r18=>bd (app x11 r18) fun x19=>some<|.next x19)) x3.items.length 0 [x4]) (el (fun x11=>some x11)<|fun r1a=>some r1a)
def d_H:Nat→k_z
 | 0=>⟨fun _ _ _ _=>none⟩
 | n+1=>⟨f_I n<|d_H n⟩
def k_A (n:Nat):=(d_H n).spec_l18Paths
def f_J (n:Nat) (x1:u_) (x2:f_) (x3:Val):Option (Str×Int×Int) :=
 bd (k_A n x2 (D_ (x2.rules.length:Int) 1) x3 (⟨[]⟩:Str)) fun r12=>bd3 (a_s x1 (r12.length:Int)) fun r15 r16 r17=>bd (idx r12 r15) fun x13=>bd3 (a_s (⟨x1.b,r16,r17⟩:u_) 8) fun r14 r10 r11=>if (r14==0)=true then bd3 (c_Q (⟨x1.b,r10,r11⟩:u_) [(⟨[47,48]⟩:Str),(⟨[47,42]⟩:Str),(⟨[47,63]⟩:Str),(⟨[47,43]⟩:Str),(⟨[47,112,49]⟩:Str),(⟨[47,48,48]⟩:Str),(⟨[47]⟩:Str),(⟨[120]⟩:Str),(⟨[47,57]⟩:Str)]) fun r18 r19 r1a=>bd (cat x13 r18) fun x1b=>some (x1b,r19,r1a) else if (r14==1)=true then bd3 (c_Q (⟨x1.b,r10,r11⟩:u_) [(⟨[112,49]⟩:Str),(⟨[47]⟩:Str),(⟨[47,47]⟩:Str),(⟨[47,112,49]⟩:Str),(⟨[47,48]⟩:Str)]) fun r1c r1d r1e=>some (r1c,r1d,r1e) else some (x13,r10,r11)
def f_K (n:Nat) (x1:List UInt8):Option (f_×(List UInt8)×Str×(List UInt8)) :=
 bd (f_D n x1) fun r11=>bd3 (f_E n r11) fun r10 r1a r1b=>bd3 (h_k n (⟨r11.b,r1a,r1b⟩:u_) r10 (D_ (r10.rules.length:Int) 1) 10) fun r12 r1c r1d=>bd (h_l n r10 (D_ (r10.rules.length:Int) 1) r12) fun r13=>bd3 (f_J n (⟨r11.b,r1c,r1d⟩:u_) r10 r12) fun r14 r1e r1f=>bd3 (a_s (⟨r11.b,r1e,r1f⟩:u_) 4) fun r1g r1h r1i=>bd3 (d_E (⟨r11.b,r1h,r1i⟩:u_) r1g) fun r1j r15 r16=>bd2 (e_3 n r10 r13 r14) fun r17 r1k=>bd (α:=Bool×Int×Int) (if r1k=true then bd3 (d_D (⟨r11.b,r15,r16⟩:u_) 3) fun r1l r1m r1n=>some (!r1l,r1m,r1n) else some (false,r15,r16)) (un3 fun x1o x18 x19=>bd (α:=(List UInt8)×Int×Int) (if x1o=true then bd3 (h_k n (⟨r11.b,x18,x19⟩:u_) r10 r17.rule 5) fun r1p r1q r1r=>bd (h_l n r10 r17.rule r1p) fun r1s=>some (r1s,r1q,r1r) else some (r1j,x18,x19))<|un3 fun x1t x1u x1v=>some (r10,r13,r14,x1t))
def e_N (x1:List UInt8) (x2:List UInt8):Option Bool :=
 if ((x1.length:Int) != (x2.length:Int))=true then some false else bd (E_ (σ:=Unit) (ρ:=Bool) (fun k10=>(fun (_:Unit)=>bd (idx x1 (k10:Int)) fun x11=>bd (idx x2 (k10:Int)) fun x12=>if ((byteI x11) != (byteI x12))=true then some (.ret false) else some (.next ()))) x1.length 0 ()) (el (fun (_:Unit)=>some true)<|fun r13=>some r13)
def e_e (n:Nat) (x1:List K_) (x2:Int) (x3:Int):Option Int :=
 bd (α:=Bool) (if (decide<|x2<0)=true then some true else some (decide<|x3<0)) (fun x12=>if x12=true then some (-1) else bd (Y_ (σ:=Int) (ρ:=Int) (fun x10=>if (decide<|0≤x10)=true then bd (idx x1 x10) fun x11=>bd (α:=Bool) (if (decide<|x11.start≤x2)=true then if (decide<|x2≤x11.end_)=true then some (decide<|x3≤(D_ x11.end_ x2)) else some false else some false) (fun x13=>if x13=true then some (.ret x10) else some (.next<|D_ x10 1)) else some (.brk x10)) n<|D_ (x1.length:Int) 1) (el (fun x10=>some (-1))<|fun r14=>some r14))
def f_L (n:Nat) (x1:List UInt8):Option Bool :=
 bd (h_i x1) fun r19=>if r19=true then some true else bd4 (f_K n x1) fun r12 r11 r15 r16=>bd2 (h_c n r12 r11 r15 r16) fun r17 r18=>bd2 (g_J n r12 r11 r15 r16) fun r1j r1a=>if (r18 != r1a)=true then some false else if (!r18)=true then bd (e_N r17 r11) fun r1b=>some r1b else bd2 (e_3 n r12 r11 r15) fun r10 r1k=>bd2 (h_e n r12 r11) fun r13 r1l=>bd (e_e n r13 r10.start<|D_ r10.end_ r10.start) fun r14=>bd2 (f_l r11 r10.start (D_ r10.end_ r10.start) r16) fun r1c r1d=>bd (α:=Bool) (if r1d=true then bd (e_N r17 r1c) fun r1e=>if r1e=true then bd (e_C n r12 r17) fun r1f=>if r1f=true then if ((r13.length:Int)==0)=true then some true else if (decide<|0≤r14)=true then if (decide<|r14<(r13.length:Int))=true then bd (idx r13 r14) fun x1g=>if (decide<|x1g.start≤r10.start)=true then bd (idx r13 r14) fun x1h=>some (decide<|r10.end_≤x1h.end_) else some false else some false else some false else some false else some false else some false)<|fun x1i=>some x1i
end Go.Vw
namespace Go.Vw
open Go.RowKit Dat
theorem m_Z {P:Program} {o:Oper} {a:Act} {w:World} {K K' K1 K2:Act→World→Prop} {Q:Exit→Act→World→Prop} (h : ∀ a w,K a w→K' a w) (hh:o.wp P a w K (Exit.then K1 Q)):o.wp P a w K' (Exit.then K2 Q):=by
 unfold Oper.wp at *
 generalize (execOp a.eval o).run P w=r at *
 cases r with
 | ok n w' =>
  cases n <;> simp only [Oper.upon] at hh ⊢ <;>
   first
    | exact h _ _ hh
    | exact Calls.mono hh (fun e w'' he=>by cases e <;> first | exact h _ _ he | exact he)
    | exact Rows.mono hh<|fun _ _ he=>h _ _ he
 | halt x w'=>cases x <;> simp only [Oper.upon] at hh ⊢ <;> exact hh
theorem i_Q {P:Program} {ops:Array Oper} {K K1:Act→World→Prop} {Q:Exit→Act→World→Prop} {l2:List Oper} (hk : ∀ a w,K1 a w→wpList P ops (Exit.then K Q) l2 a w) : ∀ (l1:List Oper) (a:Act) (w:World),wpList P ops (Exit.then K1 Q) l1 a w→wpList P ops (Exit.then K Q) (l1++l2) a w
 | [],a,w,h=>hk a w h
 | o::l1,a,w,h=>by
  rw [List.cons_append]
  unfold wpList at h ⊢
  split at h
  ·rename_i hw
   rw [if_pos hw]
   rcases h with h | ⟨h1,h2⟩
   ·exact .inl<|m_Z (i_Q hk l1) h
   ·exact .inr ⟨h1,h2⟩
  ·rename_i hw
   rw [if_neg hw]
   exact i_Q hk l1 _ _ h
section
variable {P:Program} {N:Nat} {ops:Array Oper} {K:Act→World→Prop} {Q:Exit→Act→World→Prop} {e:Env} {w:World} {l:List Oper}
theorem n_0 (k:Nat) (l:List Oper):l.take k++l.drop k=l:=List.take_append_drop k l
theorem d_a (d:Nat) (u:Bool) (k:Nat) (h1:WL P N ops (fun a w'=>w'=w∧Sat N ((d,vB u)::e) a) Q (l.take k) e w) (h2:WL P N ops K Q (l.drop k) ((d,vB u)::e) w):WL P N ops K Q l e w:=fun a ha=>by
 rw [← n_0 k l]
 exact i_Q (fun a w' ⟨hw,hs⟩=>by subst hw;exact h2 a hs) _ a w<|h1 a ha
variable {d:Nat} {u c:Bool}
def i_R (n:Nat) (e:Env):Bool:=(e.take n).all fun p=>(e.drop n).all fun q=>!Nat.beq p.1 q.1
theorem k_w : ∀ {e:Env} {t:Nat},(∀ q∈e,Nat.beq t q.1=false)→r_ e t=none
 | [],_,_=>rfl
 | (k,v)::e,t,h=>by
  have h1:=h (k,v) List.mem_cons_self;have h2:Nat.beq k t=false:=by rw [← Bool.not_eq_true,Nat.beq_eq] at *;exact fun h=>h1 h.symm
  rw [r_,h2]
  exact k_w fun q hq=>h q<|List.mem_cons_of_mem _ hq
theorem k_x : ∀ {e1 e2:Env} {t:Nat},(∀ p∈e1,Nat.beq p.1 t=false)→r_ (e1++e2) t=r_ e2 t
 | [],_,_,_=>rfl
 | (k,v)::e1,e2,t,h=>by
  rw [List.cons_append,r_,h (k,v) List.mem_cons_self]
  exact k_x fun p hp=>h p<|List.mem_cons_of_mem _ hp
theorem n_1 {n:Nat} {e:Env} (h:i_R n e=true) {t:Nat} {v:Value} (hl:r_ (e.drop n) t=some v):r_ e t=some v:=by
 have:r_ (e.take n++e.drop n) t=r_ (e.drop n) t:=by
  refine k_x fun p hp=>?_
  cases hb:Nat.beq p.1 t with
  | false=>rfl
  | true =>
   exfalso
   have hpt:p.1=t:=Nat.eq_of_beq_eq_true hb;have h1:=List.all_eq_true.1 h p hp
   rw [List.all_eq_true] at h1
   have:=k_w (e:=e.drop n) (t:=t) fun q hq=>by
    have:=h1 q hq
    rw [Bool.not_eq_true'] at this
    rw [← hpt];exact this
   rw [this] at hl;cases hl
 rw [List.take_append_drop] at this
 rw [this];exact hl
theorem n_2 (n:Nat) {e':Env} {a:Act} (hu:c=u) (h0:r_ e' d=some (vB c)) (hf:i_R n e'=true) (he:e'.drop n=e) (ha:Sat N e' a):Sat N ((d,vB u)::e) a:=by
 subst hu;subst he;refine ⟨ha.defers,ha.size,fun t v ht=>?_⟩
 simp only [r_] at ht
 by_cases hk:d=t
 ·subst hk;have hb:Nat.beq d d=true:=by simp
  rw [hb] at ht
  simp only [cond_true,Option.some.injEq] at ht
  subst ht;exact ha.at_ d _ h0
 ·have hb:Nat.beq d t=false:=by rw [← Bool.not_eq_true,Nat.beq_eq];exact hk
  rw [hb] at ht
  simp only [cond_false] at ht
  exact ha.at_ t v<|n_1 hf ht
theorem WLq (n:Nat) {e':Env} (hu:some c=some u) (h0:r_ e' d=some (vB c)) (hf:i_R n e'=true) (he:e'.drop n=e):WL P N ops (fun a w'=>w'=w∧Sat N ((d,vB u)::e) a) Q [] e' w :=
 b_4 fun _ ha=>⟨rfl,n_2 n (Option.some.inj hu) h0 hf he ha⟩
end
end Go.Vw
universe u
namespace Go.Vw
open Go.RowKit Dat
section
variable {P:Program} {N:Nat} {ops:Array Oper} {K:Act→World→Prop} {Q:Exit→Act→World→Prop} {e:Env} {w:World} {rest:List Oper}
variable {d:Nat} {op:Op} {ty:TypeId} {pos:String} {aft:Array Edge} {x:Operand}
theorem Wn {y:Code} {Q':Exit→Act→World→Prop} (h:WC P N y K Q e w):WL P N ops (KC P y K Q) Q' [] e w:=b_4<|WC.of_KC h
theorem Ws {id:Nat} {l:List Oper} {y:Code} (h:WL P N l.toArray (KC P y K Q) Q l e w):WC P N (.seq (.region id l.toArray false) y) K Q e w:=b_3<|b_r h
theorem Wk {y:Code} {Q':Exit→Act→World→Prop} (h:WC P N y K Q e w):WC P N .skip (KC P y K Q) Q' e w:=a_e<|WC.of_KC h
theorem d_6 {b:Bool} {o:Option Value} {v:Value} (h:(bif b then o else none)=some v):b=true∧o=some v:=by
 cases b
 ·cases h
 ·exact ⟨rfl,h⟩
theorem Rm {v:Value} (h:(bif Nat.blt d N then ev e x else none)=some v) (k:WL P N ops K Q rest ((d,v)::e) w):WL P N ops K Q (⟨some d,.move x,ty,pos,aft,none⟩::rest) e w:=R (d_6 h).1 (b_R (d_6 h).2) k
theorem Ra {v:Value} (h:(bif Nat.blt d N then ev e x else none)=some v) (k:WL P N ops K Q rest ((d,v)::e) w):WL P N ops K Q (⟨some d,.assign x,ty,pos,aft,none⟩::rest) e w:=R (d_6 h).1 (d_o (d_6 h).2) k
section
variable {j:Nat} {want b:Bool}
theorem bind_some {o:Option Nat} {v:Value} (h:o.bind (r_ e)=some v) : ∃ gd,o=some gd∧r_ e gd=some v:=by
 cases o with
 | none=>cases h
 | some g=>exact ⟨g,rfl,h⟩
theorem Rh {v:Value} (h:(bif Nat.blt d N then ((ops[j]?).bind (·.dst)).bind (r_ e) else none)=some (.bool b)) (hw:b=want) (hr:Rd noX P N ⟨some d,op,ty,pos,aft,some (j,want)⟩ e w v) (k:WL P N ops K Q rest ((d,v)::e) w):WL P N ops K Q (⟨some d,op,ty,pos,aft,some (j,want)⟩::rest) e w:=by
 obtain ⟨gd,h1,h2⟩:=bind_some (d_6 h).2;exact Rg h1 h2 hw (d_6 h).1 hr k
theorem Nh (h:(bif Nat.blt d N then ((ops[j]?).bind (·.dst)).bind (r_ e) else none)=some (.bool b)) (hw:b = !want) (k:WL P N ops K Q rest ((d,undef)::e) w):WL P N ops K Q (⟨some d,op,ty,pos,aft,some (j,want)⟩::rest) e w:=by
 obtain ⟨gd,h1,h2⟩:=bind_some (d_6 h).2;exact Ng h1 h2 hw (d_6 h).1 k
theorem Nv (h:(bif Nat.blt d N then ((ops[j]?).bind (·.dst)).bind (r_ e) else none)=some undef) (k:WL P N ops K Q rest ((d,undef)::e) w):WL P N ops K Q (⟨some d,op,ty,pos,aft,some (j,want)⟩::rest) e w:=by
 obtain ⟨gd,h1,h2⟩:=bind_some (d_6 h).2;exact Nu h1 h2 (d_6 h).1 k
end
end
theorem goF {P:Program} {f:FuncId} {fn0:Func} {c:Code} {N:Nat} {args:List Value} {w:World} {R:Value→World→Prop} (hf:P.funcs[f]? = some fn0) (hb:fn0.body=some c) (hN:fn0.ntmps=N) (hle:args.length≤N) (h : ∀ fn:Func,fn.results=fn0.results→WC P N c (L_ P fn R) (QR P fn R) (e_m 0 args) w):m_ P f args w R:=j_F hf hb hN hle<|h fn0 rfl
abbrev _root_.Go.World.z (w:World):Nat:=w.heap.size
abbrev sl (a:Option Addr) (n c:Nat):Value:=.slice a n c
abbrev pt (g:Nat):Value:=.pointer<|some ⟨g,0,none⟩
abbrev Bw (a b:World):Prop:=Below a.heap.size a b
abbrev vR (x:e_) (a1:Option Addr) (n1 c1:Nat) (a2:Option Addr) (n2 c2:Nat) (a3:Option Addr) (n3 c3:Nat) (a4:Option Addr) (n4 c4:Nat):List Value:=[x.name.v,vI x.kind,vI x.size,vB x.little,.slice a1 n1 c1,.slice a2 n2 c2,.slice a3 n3 c3,.slice a4 n4 c4]
theorem z {α:Sort u} {a:α}:a=a:=rfl
theorem Sat.k {N:Nat} {e e':Env} {a:Act} (h:Sat N e a) (hs:sub e e'):Sat N e' a:=h.weaken hs
theorem fid {a:Prop} (h:a):a:=h
theorem lt_ {a b c:Nat} (h:a≤b) (h':b≤c):a≤c:=Nat.le_trans h h'
theorem lr {a:Nat}:a≤a:=Nat.le_refl a
theorem lb {a b:Nat} (h:Nat.ble a b=true):a≤b:=Nat.le_of_ble_eq_true h
theorem ii {x:Int} (h:(decide (-9223372036854775808≤x) && decide (x≤9223372036854775807))=true):inI x:=inI_of x h
section
variable {S T A M:List Nat} {m n g k:Nat}
theorem i_H (h:m≤n) : ∀ k∈[n],m≤k:=b_ h
theorem mno (h : ∀ k∈T,k<m) (h':m≤n) : ∀ k∈[n],k∉T:=b_<|fun ht=>absurd (h n ht)<|Nat.not_lt.2 h'
theorem mnr (h : ∀ k∈T,k<m) : ∀ k∈[m],k∉T:=mno h lr
theorem mm1 (h:g<m) (h':m≤n) : ∀ k∈[n],k∉[g]:=mno (b_ h) h'
theorem mmr (h:g<m) : ∀ k∈[m],k∉[g]:=mno (b_ h) lr
theorem mor (h:m≤n) : ∀ k∈[n],k∈M∨m≤k:=b_<|.inr h
theorem l_ (hs : ∀ k∈S,n≤k) (h:m≤n) : ∀ k∈S,m≤k:=or0 hs<|b_k h
theorem k_ (hs : ∀ k∈S,n≤k) (h:g<m) (h':m≤n) : ∀ k∈S,k∉[g]:=or0 hs<|W_ (b_ h) h'
theorem b_X (hs : ∀ k∈S,n≤k) (h : ∀ k∈T,k<m) (h':m≤n) : ∀ k∈S,k∉T:=or0 hs<|W_ h h'
theorem a_8 (hs : ∀ k∈S,k∈A∨n≤k) (ha : ∀ k∈A,m≤k) (h:m≤n) : ∀ k∈S,m≤k:=or1 hs ha<|b_k h
theorem o1no (hs : ∀ k∈S,k∈A∨n≤k) (ha : ∀ k∈A,k∉T) (h : ∀ k∈T,k<m) (h':m≤n) : ∀ k∈S,k∉T:=or1 hs ha<|W_ h h'
theorem djs (h : ∀ k∈S,k∉[g]):g∉S:=fun hg=>h g hg<|List.mem_singleton.2 rfl
theorem atp {p:Nat→Prop} (h : ∀ k∈[g],p k):p g:=h g<|List.mem_singleton.2 rfl
theorem nd0:([]++[]:List Nat).Nodup:=f_S J_ J_ d_d
theorem al0 {p:Nat→Prop} : ∀ k∈([]++[]:List Nat),p k:=f_R d_d d_d
end
section
variable {e e':Env} {v1 v2 v3 v4 v5 v6 v7 v8 v9:Value} {k1 k2 k3 k4 k5 k6 k7 k8 k9:Nat}
theorem s1 (h1:r_ e k1=some v1):sub e [(k1,v1)]:=⟨h1,trivial⟩
theorem s2 (h1:r_ e k1=some v1) (h2:r_ e k2=some v2):sub e [(k1,v1),(k2,v2)]:=⟨h1,s1 h2⟩
theorem s3 (h1:r_ e k1=some v1) (h2:r_ e k2=some v2) (h3:r_ e k3=some v3):sub e [(k1,v1),(k2,v2),(k3,v3)]:=⟨h1,s2 h2 h3⟩
theorem s4 (h1:r_ e k1=some v1) (h2:r_ e k2=some v2) (h3:r_ e k3=some v3) (h4:r_ e k4=some v4):sub e [(k1,v1),(k2,v2),(k3,v3),(k4,v4)]:=⟨h1,s3 h2 h3 h4⟩
theorem s5 (h1:r_ e k1=some v1) (h2:r_ e k2=some v2) (h3:r_ e k3=some v3) (h4:r_ e k4=some v4) (h5:r_ e k5=some v5):sub e [(k1,v1),(k2,v2),(k3,v3),(k4,v4),(k5,v5)]:=⟨h1,s4 h2 h3 h4 h5⟩
theorem s6 (h1:r_ e k1=some v1) (h2:r_ e k2=some v2) (h3:r_ e k3=some v3) (h4:r_ e k4=some v4) (h5:r_ e k5=some v5) (h6:r_ e k6=some v6):sub e [(k1,v1),(k2,v2),(k3,v3),(k4,v4),(k5,v5),(k6,v6)]:=⟨h1,s5 h2 h3 h4 h5 h6⟩
theorem s7 (h1:r_ e k1=some v1) (h2:r_ e k2=some v2) (h3:r_ e k3=some v3) (h4:r_ e k4=some v4) (h5:r_ e k5=some v5) (h6:r_ e k6=some v6) (h7:r_ e k7=some v7):sub e [(k1,v1),(k2,v2),(k3,v3),(k4,v4),(k5,v5),(k6,v6),(k7,v7)]:=⟨h1,s6 h2 h3 h4 h5 h6 h7⟩
theorem s8 (h1:r_ e k1=some v1) (h2:r_ e k2=some v2) (h3:r_ e k3=some v3) (h4:r_ e k4=some v4) (h5:r_ e k5=some v5) (h6:r_ e k6=some v6) (h7:r_ e k7=some v7) (h8:r_ e k8=some v8):sub e [(k1,v1),(k2,v2),(k3,v3),(k4,v4),(k5,v5),(k6,v6),(k7,v7),(k8,v8)]:=⟨h1,s7 h2 h3 h4 h5 h6 h7 h8⟩
theorem s9 (h1:r_ e k1=some v1) (h2:r_ e k2=some v2) (h3:r_ e k3=some v3) (h4:r_ e k4=some v4) (h5:r_ e k5=some v5) (h6:r_ e k6=some v6) (h7:r_ e k7=some v7) (h8:r_ e k8=some v8) (h9:r_ e k9=some v9):sub e [(k1,v1),(k2,v2),(k3,v3),(k4,v4),(k5,v5),(k6,v6),(k7,v7),(k8,v8),(k9,v9)]:=⟨h1,s8 h2 h3 h4 h5 h6 h7 h8 h9⟩
end
theorem onL {α:Type} [Dat α] {w:World}:a_ w [] (.slice none 0 0) ([]:List α):=n_g w
theorem _root_.Go.RowKit.Below.s {b:Nat} {w w':World} (h:Below b w w'):w.heap.size≤w'.heap.size:=h.size
theorem Chg.s {X:Nat→Prop} {w w':World} (h:Chg X w w'):w.heap.size≤w'.heap.size:=h.size
abbrev Chg.e:=@Chg.ext
abbrev repS.e:=@repS.ext
abbrev repS.c:=@repS.chg
abbrev a_.e:=@a_.ext
abbrev a_.c:=@a_.chg
abbrev Z_.e:=@Z_.ext
abbrev Z_.c:=@Z_.chg
abbrev a_A.e:=@a_A.ext
abbrev a_A.c:=@a_A.chg
abbrev b_l.e:=@b_l.ext
abbrev b_l.c:=@b_l.chg
abbrev GlW.e:=@GlW.ext
abbrev GlW.c:=@GlW.chg
abbrev b_Q.e:=@b_Q.ext
abbrev b_Q.c:=@b_Q.chg
abbrev Blk.e:=@Blk.ext
abbrev Blk.c:=@Blk.chg
abbrev b_H.e:=@b_H.ext
abbrev b_H.c:=@b_H.chg
section
variable {P:Program} {N:Nat} {ops:Array Oper} {K:Act→World→Prop} {Q:Exit→Act→World→Prop} {e:Env} {w:World} {rest:List Oper} {X:Nat→Prop} {T:Nat} {p:a_I}
variable {d d':Nat} {ty ty':TypeId} {pos pos':String} {aft aft':Array Edge} {x x':Operand} {v v':Value}
theorem Rw {c:Code} {Q':Exit→Act→World→Prop} (h:(bif Nat.blt d N then ev e x else none)=some v) (k:WC P N c K Q ((d,v)::e) w):WL P N ops (KC P c K Q) Q' [⟨some d,.assign x,ty,pos,aft,none⟩] e w:=Ra h<|Wn k
theorem Wm {id:Nat} {l:List Oper} {c:Code} (h:(bif Nat.blt d N then ev e x else none)=some v) (k:WL P N (⟨some d,.move x,ty,pos,aft,none⟩::l).toArray (KC P c K Q) Q l ((d,v)::e) w):WC P N (.seq (.region id (⟨some d,.move x,ty,pos,aft,none⟩::l).toArray false) c) K Q e w:=Ws<|Rm h k
theorem RM (h:(bif Nat.blt d N then ev e x else none)=some v) (h':(bif Nat.blt d' N then ev ((d,v)::e) x' else none)=some v') (k:WL P N ops K Q rest ((d',v')::(d,v)::e) w):WL P N ops K Q (⟨some d,.move x,ty,pos,aft,none⟩::⟨some d',.move x',ty',pos',aft',none⟩::rest) e w:=Rm h<|Rm h' k
theorem RA (h:(bif Nat.blt d N then ev e x else none)=some v) (h':(bif Nat.blt d' N then ev ((d,v)::e) x' else none)=some v') (k:WL P N ops K Q rest ((d',v')::(d,v)::e) w):WL P N ops K Q (⟨some d,.assign x,ty,pos,aft,none⟩::⟨some d',.assign x',ty',pos',aft',none⟩::rest) e w:=Ra h<|Ra h' k
theorem dM {i:Nat} (ho:ops[i]? = some ⟨some d,.move x,ty,pos,aft,none⟩) (hf:Nat.blt d N=true) (h:ev e x=some v) (k:PR X P N ops T K p ((d,v)::e) w):PR X P N ops T K (.rd i p) e w:=dR ho hf (b_R h) k
theorem dQ {i:Nat} (ho:ops[i]? = some ⟨some d,.assign x,ty,pos,aft,none⟩) (hf:Nat.blt d N=true) (h:ev e x=some v) (k:PR X P N ops T K p ((d,v)::e) w):PR X P N ops T K (.rd i p) e w:=dR ho hf (d_o h) k
theorem l0 {t g o:Nat} {dst:Option Tmp} {gd:Option (Nat×Bool)} (hT : ∀ w,(isAgg t).run P w = .ok false w) (h:ev e x=some (.pointer<|some ⟨g,o,none⟩)) (hc:w.cell? ⟨g,o,none⟩=some v):Rd noX P N ⟨dst,.load t x,ty,pos,aft,gd⟩ e w v:=c_t hT h (fun h=>h) hc
def plA:Nat→Nat→List Nat→a_I
 | _,0,_=>.done
 | i,n+1,l=>bif l.elem i then .ef i (plA (i+1) n l) else .rd i (plA (i+1) n l)
abbrev pl_ (n:Nat) (l:List Nat):a_I:=plA 0 n l
end
end Go.Vw
namespace Go.Vw
open Go.RowKit Dat Go.ChangeShapes Go.WideShapes Go.ChangeAt
structure IsT (P:Program) (t:TypeId) (α:Type) [Dat α] (L:α→Prop):Prop where
 rd : ∀ {H:Type} (enc:TypeId×Value→H) (W:World) (fuel:Nat) (cs:List Value) (x:DataW H×List MemPlace),DataW.trod enc P W 0 (fun _=>true) true fuel t cs=some x→(x.1.weights P t).all (· ≤ reachBytes)=true → ∃ v:α,rep W W.heap.size cs v∧L v
section
variable {P:Program} {t:TypeId}
theorem o_k (ht:P.underlying t=some (.int .u8)):IsT P t UInt8 (fun _=>True):=⟨fun enc W fuel cs x h _=>by
 obtain ⟨n,rfl,_,hw⟩:=DataW.trod_int ht h;have hb:=bounds_u8 hw
 have e:n=byteI (UInt8.ofNat n.toNat):=by
  unfold byteI
  rw [UInt8.toNat_ofNat']
  omega
 refine ⟨UInt8.ofNat n.toNat,⟨_,rfl,?_⟩,trivial⟩
 show Value.int .u8 n=vU (byteI<|UInt8.ofNat n.toNat)
 rw [← e]⟩
theorem l_5 {H:Type} {e:TypeId} : ∀ {l:List (DataW H)} {d:DataW H},(DataW.weightsAll P e l).all (· ≤ reachBytes)=true→d∈l→(d.weights P e).all (· ≤ reachBytes)=true
 | [],_,_,h=>by cases h
 | y::l,d,hw,h=>by
  unfold DataW.weightsAll at hw
  rw [List.all_append,Bool.and_eq_true] at hw
  rcases List.mem_cons.1 h with rfl | h
  ·exact hw.1
  ·exact l_5 hw.2 h
theorem l_6 {H:Type} : ∀ {ts:List TypeId} {l:List (DataW H)} {i:Nat} {t:TypeId} {d:DataW H},(DataW.weightsEach P ts l).all (· ≤ reachBytes)=true→ts[i]? = some t→l[i]? = some d→(d.weights P t).all (· ≤ reachBytes)=true
 | [],_,_,_,_,_,h,_=>by simp at h
 | _::_,[],_,_,_,_,_,h=>by simp at h
 | t::ts,y::l,i,t',d,hw,h1,h2=>by
  unfold DataW.weightsEach at hw
  rw [List.all_append,Bool.and_eq_true] at hw
  cases i with
  | zero=>simp at h1 h2;subst h1 h2;exact hw.1
  | succ i=>simp at h1 h2;exact l_6 hw.2 h1 h2
theorem cells?_spec {w:World} {a:Addr} {n:Nat} {cs:List Value} (h:w.cells? 0 a n=some cs):cs.length=n ∧ ∀ j v,cs[j]? = some v→w.cell? (a.add j)=some v:=by
 unfold World.cells? at h
 rw [if_pos (Nat.zero_le _)] at h
 refine ⟨by simpa using mapM_some_length h,fun j v hv=>?_⟩
 have hj:j<n:=by
  have h1:=(List.getElem?_eq_some_iff.1 hv).1;have h2:=mapM_some_length h
  simp at h2
  omega
 have:=mapM_some_get h j j (by rw [List.getElem?_range hj])
 rw [this];exact hv
theorem o_l {w:World} {a:Addr} {v:Value} (h:w.cell? a=some v):a.spot=none:=by
 unfold World.cell? at h
 split at h
 ·cases hs:a.spot with
  | none=>rfl
  | some x=>rw [hs] at h;simp at h
 ·cases h
theorem l_7 {α:Type} (Q:Nat→α→Prop) : ∀ (len:Nat),(∀ i,i<len → ∃ v,Q i v) → ∃ l:List α,l.length=len ∧ ∀ (i:Nat) (x:α),l[i]? = some x→Q i x
 | 0,_=>⟨[],rfl,fun i x h=>by simp at h⟩
 | n+1,h=>by
  obtain ⟨l,hl,hq⟩:=l_7 Q n<|fun i hi=>h i (by omega);obtain ⟨v,hv⟩:=h n (by omega);refine ⟨l++[v],by simp [hl],fun i x hx=>?_⟩
  by_cases hi:i<l.length
  ·rw [List.getElem?_append_left hi] at hx;exact hq i x hx
  ·rw [List.getElem?_append_right (by omega)] at hx
   have h1:=(List.getElem?_eq_some_iff.1 hx).1
   simp only [List.length_cons,List.length_nil] at h1
   have h2:i=n:=by omega
   subst h2
   rw [show i - l.length=0 by omega] at hx
   simp at hx
   exact hx ▸ hv
theorem o_m {α:Type} [Dat α] {L:α→Prop} {e:TypeId} (ht:P.underlying t=some (.slice e)) (he:IsT P e α L) (hc:P.cellsOf e=sz α) (hb:1≤P.bytesOf e):IsT P t (List α) (fun l=>l.length≤LEN ∧ ∀ x∈l,L x):=⟨fun enc W fuel cs x h hw=>by
 have hr:reachBytes=140737488351232:=rfl;have hL:LEN=140737488355328:=rfl
 rcases DataW.trod_slice ht h with ⟨rfl,rfl⟩ | ⟨a,len,cap,elems,rest,n,_,rfl,rfl,_,hlc,_,hlen,hel,hsp,_⟩
 ·exact ⟨[],⟨_,rfl,none,0,rfl,Nat.le_refl _,Nat.zero_le _,fun _=>rfl,fun p hp=>by cases hp⟩,by simp,fun x hx=>by cases hx⟩
 ·obtain ⟨hrl,_⟩:=hsp rfl
  have hw':(elems.length+rest.length) * P.bytesOf e≤reachBytes∧(DataW.weightsAll P e<|elems.map (·.1)).all (· ≤ reachBytes)=true:=by
   unfold DataW.weights at hw
   rw [ht] at hw
   simp only [List.all_cons,List.all_append,Bool.and_eq_true,decide_eq_true_eq,List.length_map] at hw
   exact ⟨hw.1,hw.2.1⟩
  have hcap:cap≤LEN:=by
   have h1:elems.length+rest.length≤(elems.length+rest.length) * P.bytesOf e:=Nat.le_mul_of_pos_right _ hb
   omega
  have hone : ∀ i:Nat,i<len → ∃ v:α,a.spot=none∧a.block<W.heap.size∧(∃ cs,Z_ W a.block (a.off+i * sz α) cs∧rep W W.heap.size cs v)∧L v:=by
   intro i hi;have h1:=hel i hi;have hie:i<elems.length:=by omega
   rw [List.getElem?_eq_getElem hie] at h1
   cases hcs:W.cells? 0 (a.add<|i * P.cellsOf e) (P.cellsOf e) with
   | none=>rw [hcs] at h1;cases h1
   | some cs =>
    rw [hcs] at h1
    simp only [Option.bind_some] at h1
    obtain ⟨v,hv,hl⟩:=he.rd enc W n cs _ h1<|l_5 hw'.2<|List.mem_map_of_mem<|List.getElem_mem hie;obtain ⟨c1,c2⟩:=cells?_spec hcs;have hpos:0<cs.length:=by rw [c1,hc];exact Dat.pos
    have hsp:a.spot=none:=by
     have h0:=hel 0 (by omega)
     rw [List.getElem?_eq_getElem (show 0<elems.length by omega)] at h0
     cases hcs0:W.cells? 0 (a.add<|0 * P.cellsOf e) (P.cellsOf e) with
     | none=>rw [hcs0] at h0;cases h0
     | some cs0 =>
      obtain ⟨d1,d2⟩:=cells?_spec hcs0;have hpos0:0<cs0.length:=by rw [d1,hc];exact Dat.pos
      have:=d2 0 cs0[0] (by rw [List.getElem?_eq_getElem hpos0]);have:=o_l this
      simpa [Addr.add] using this
    have ha:a=⟨a.block,a.off,none⟩:=by cases a;simp only at hsp;rw [hsp]
    have hcells:Z_ W a.block (a.off+i * sz α) cs:=by
     intro j u hu;have:=c2 j u hu
     rw [ha,Addr.add_lit,Addr.add_lit,hc] at this
     exact this
    exact ⟨v,hsp,hcells.lt (by intro h;rw [h] at hpos;cases hpos),⟨cs,hcells,hv⟩,hl⟩
  obtain ⟨l,hll,hq⟩:=l_7 _ len hone;refine ⟨l,⟨_,rfl,some a,cap,by rw [hll],by omega,by omega,fun h=>(by cases h),fun p hp=>?_⟩,by omega,fun x hx=>?_⟩
  ·obtain rfl:=Option.some.inj hp;refine ⟨fun hne=>?_,fun hne=>?_,fun i x hx=>(hq i x hx).2.2.1⟩
   ·cases l with
    | nil=>exact absurd rfl hne
    | cons y l=>exact (hq 0 y rfl).1
   ·cases l with
    | nil=>exact absurd rfl hne
    | cons y l=>exact (hq 0 y rfl).2.1
  ·obtain ⟨i,hi⟩:=List.getElem?_of_mem hx
   exact (hq i x hi).2.2.2⟩
structure OkW (P:Program) (W:World) (base:Nat) (t:TypeId) (v:Value):Prop where
 h:Value.okWide P W .any base t v
structure OkWs (P:Program) (W:World) (base:Nat) (ts:Array TypeId) (vs:Array Value):Prop where
 h : ∀ (j:Nat) t v,ts[j]? = some t→vs[j]? = some v→Value.okWide P W .any base t v
theorem OkWs.at {W:World} {base:Nat} {ts:Array TypeId} {vs:Array Value} (h:OkWs P W base ts vs) (j:Nat) (t:TypeId) (v:Value) (h1:ts[j]? = some t) (h2:vs[j]? = some v):OkW P W base t v:=⟨h.h j t v h1 h2⟩
theorem o_n {W:World} {base:Nat} {t:TypeId} {v:Value} {e:TypeId} (ht:P.underlying t=some (.slice e)) (h:OkW P W base t v) : ∃ a n c,v = .slice a n c:=okWide_slice ht h.h
theorem l_8 {H:Type} {enc:TypeId×Value→H} (hl:laidOutB P=true) {W W':World} (hb:Below W.heap.size W W') : ∀ (ts:List TypeId) (vs:List Value) (ds:List (DataW H)) (ps:List MemPlace),(∀ t∈ts,P.readableRec t=true∧t<P.types.size) →
  DataW.TrodAll enc P W 0 (fun _=>true) true ts vs ds ps→(∀ x∈ps,x.block<W.heap.size) → ∀ (sp:Nat→Bool),(∀ b,b<W.heap.size→sp b=true)→DataW.TrodAll enc P W' 0 sp true ts vs ds ps
 | [],[],[],_,_,h,_,_,_=>h
 | t::ts,v::vs,d::ds,ps,hr,h,hlt,sp,hsp=>by
  obtain ⟨p,q,h1,h2,rfl⟩:=h;refine ⟨p,q,?_,l_8 hl hb ts vs ds q (fun t ht=>hr t<|List.mem_cons_of_mem _ ht) h2 (fun x hx=>hlt x<|List.mem_append_right _ hx) sp hsp,rfl⟩;have hlp : ∀ x∈p,x.block<W.heap.size:=fun x hx=>hlt x<|List.mem_append_left _ hx
  exact WideElems.Trod_stays hl (hr t List.mem_cons_self).1 (hr t List.mem_cons_self).2 h1 (fun x hx=>hb.same<|hlp x hx) (fun x hx=>hsp _<|hlp x hx)
 | [],_::_,_,_,_,h,_,_,_=>by cases h
 | [],[],_::_,_,_,h,_,_,_=>by cases h
 | _::_,[],_,_,_,h,_,_,_=>by cases h
 | _::_,_::_,[],_,_,h,_,_,_=>by cases h
theorem o_o {H:Type} {enc:TypeId×Value→H} {f:Func} {s:ChangeSpec} {apart fresh handsOn again:Bool} {W W':World} {args:Array Value} {ds gs:List (DataW H)} {before:List MemPlace} {tb:TypeId} (hl:laidOutB P=true) (hread : ∀ t∈f.params.toList,P.readableRec t=true∧t<P.types.size)
  (hb:Below W.heap.size W W') (hW:DataW.Whole enc P f.params.toList s.vars apart W args.toList ds gs before) (hres:f.resultTypes = #[tb]) (htb:P.underlying tb=some .bool) (hvars:s.vars=[]) (hfn:s.fn H (ds++gs)={ results:=[.lit (.bool true)],args:=ds }) :
  s.post enc P f apart fresh handsOn again W args (.bool true) W':=by
 have hlt : ∀ x∈before,x.block<W.heap.size:=fun p hp=>hW.lt p hp
 have hW':=hW;obtain ⟨p,q,hA,hV,rfl,hz,hn⟩:=hW
 rw [hvars] at hV
 obtain ⟨rfl,rfl⟩:=trodVars_none hV;have hA':=fun sp hsp=>l_8 hl hb _ _ _ _ hread hA (fun x hx=>hlt x (by simpa using hx)) sp hsp
 have hr : ∀ (b:Nat) (sp:Nat→Bool) (hd:Bool),DataW.TrodAll enc P W' b sp hd f.resultTypes.toList ((Value.bool true).resultList f.resultTypes.size) (s.fn H<|ds++[]).results []:=fun b sp hd=>by
  rw [hfn,hres];exact trodAll_cons_mk (shut_bool htb _) trodAll_mk0
 have hvs : ∀ sp:Nat→Bool,DataW.TrodVars enc P W' sp s.vars (s.fn H<|ds++[]).vars []:=fun sp=>by rw [hfn,hvars];rfl
 refine ⟨ds,[],p++[],[],p,[],hW',hr _ _ _,by rw [hfn];exact hA' _ (fun b hb=>by simpa using hb),hvs _,hb.frame _,fun _=>⟨?_,([.lit (.bool true)]:List (DataW H))++ds,[],([]++p)++[],⟨[]++p,[],?_,?_,rfl,?_,?_⟩,?_⟩⟩
 ·exact ok_one hres rfl<|okWide_bool_mk htb _
 ·have h1:=hr 0 (fun _=>true) true
  rw [hfn] at h1
  exact trodAll_append (hA' _<|fun _ _=>rfl) h1
 ·rw [hvars];rfl
 ·intro b off hp;have hp':MemPlace.cell b off∈p++[]:=by simpa using hp
  have:=hlt _ hp'
  rw [hb.frozen (p:=⟨b,off,none⟩) this]
  exact hz b off hp'
 ·intro ha;have:=hn ha;simpa using this
 ·intro x hx _;simpa using hx
end
end Go.Vw
namespace Go.Vw
open Go.RowKit Dat
theorem q_f {x y:Int} (h1 : -9223372036854775808≤x+y) (h2:x+y≤9223372036854775807):g_ x y=x+y:=by
 unfold g_;rw [IntKind.wrap_i64];omega
theorem a_r {x y:Int} (h1 : -9223372036854775808≤x - y) (h2:x - y≤9223372036854775807):D_ x y=x - y:=by
 unfold D_;rw [IntKind.wrap_i64];omega
theorem d_u {x y:Int} (h1 : -9223372036854775808≤x * y) (h2:x * y≤9223372036854775807):a_9 x y=x * y:=by
 unfold a_9;rw [IntKind.wrap_i64];omega
theorem m_o {x y:Int} (h0:0≤x) (hx:x≤9223372036854775807) (hy:0<y):c_4 x y=x / y:=by
 unfold c_4
 rw [Int.tdiv_eq_ediv_of_nonneg h0,IntKind.wrap_i64]
 have h1:=Int.ediv_nonneg h0<|Int.le_of_lt hy;have h2:=Int.ediv_le_self y h0
 omega
theorem i_E {x y:Int} (h0:0≤x):b_8 x y=x % y:=by
 unfold b_8;exact Int.tmod_eq_emod_of_nonneg h0
theorem q_g {a b:UInt8}:byteI a=byteI b ↔ a=b:=by
 unfold byteI
 constructor
 ·intro h;have:a.toNat=b.toNat:=by omega
  exact UInt8.toNat_inj.1 this
 ·rintro rfl;rfl
section
variable {α:Type}
theorem k_j {l:List α} {k:Nat} (h:k<l.length):idx l (k:Int)=some l[k]:=by rw [k_L];simp [h]
theorem d_v {l:List α} {i:Int} (h0:0≤i) (h:i.toNat<l.length):idx l i=some l[i.toNat]:=by
 unfold idx;rw [if_pos h0];simp [h]
theorem b_6 {l:List α} (h:0<l.length):idx l 0=some l[0]:=k_j (k:=0) h
theorem g_o {l:List α} (h:1<l.length):idx l 1=some l[1]:=k_j (k:=1) h
theorem g_p {l:List α} {a b:Int} (h0:0≤a) (h1:a≤b) (h2:b≤l.length):slc l a b=some ((l.take b.toNat).drop a.toNat):=by
 unfold slc;rw [if_pos ⟨h0,h1,h2⟩]
theorem a_Y {l:List α} {x:α} (h:l.length<LIM):psh l x=some (l++[x]):=by unfold psh;rw [if_pos h]
theorem c_g {l m:List α} (h:l.length+m.length≤LIM):app l m=some (l++m):=by unfold app;rw [if_pos h]
theorem d_Z {s t:Str} (h:s.b.length+t.b.length≤LIM):cat s t=some ⟨s.b++t.b⟩:=by unfold cat;rw [if_pos h]
theorem m_p {l:List α} {k:Nat} {x:α} (h:k<l.length):upd l (k:Int) x=some (l.set k x):=by
 unfold upd;rw [if_pos ⟨by omega,by omega⟩];rfl
theorem q_h {z:α} {n:Int} (h0:0≤n) (h:n≤LIM):mk0 z n=some (List.replicate n.toNat z):=by
 unfold mk0;rw [if_pos ⟨h0,h⟩]
end
section
variable {σ ρ:Type}
theorem m_q {body:Nat→σ→Option (Out σ ρ)} (st:Nat→σ) : ∀ n k,(∀ j,k≤j→j<k+n→body j (st j)=some (.next<|st<|j+1))→E_ body n k (st k)=some (.inl<|st<|k+n)
 | 0,k,_=>rfl
 | n+1,k,h=>by
  have h1:=h k (Nat.le_refl _) (by omega);have h2:=m_q st n (k+1)<|fun j a b=>h j (by omega) (by omega);unfold E_
  rw [h1]
  simp only
  rw [h2,show k+1+n=k+(n+1) by omega]
theorem d_w {body:Nat→σ→Option (Out σ ρ)} (st:Nat→σ) {n:Nat} (h : ∀ j,j<n→body j (st j)=some (.next<|st<|j+1)):E_ body n 0 (st 0)=some (.inl<|st n):=by
 have:=m_q st n 0<|fun j _ b=>h j (by omega)
 simpa using this
theorem forN_ret' {body:Nat→σ→Option (Out σ ρ)} (st:Nat→σ) {r:ρ} : ∀ n k j0,k≤j0→j0<k+n→(∀ j,k≤j→j<j0→body j (st j)=some (.next<|st<|j+1))→body j0 (st j0)=some (.ret r)→E_ body n k (st k)=some (.inr r)
 | 0,k,j0,a,b,_,_=>by omega
 | n+1,k,j0,a,b,h,hr=>by
  unfold E_
  by_cases hk:k=j0
  ·subst hk;rw [hr]
  ·rw [h k (Nat.le_refl _) (by omega)]
   exact forN_ret' st n (k+1) j0 (by omega) (by omega) (fun j c d=>h j (by omega) d) hr
theorem k_k {body:Nat→σ→Option (Out σ ρ)} (st:Nat→σ) {r:ρ} {n j0:Nat} (h0:j0<n) (h : ∀ j,j<j0→body j (st j)=some (.next<|st<|j+1)) (hr:body j0 (st j0)=some (.ret r)):E_ body n 0 (st 0)=some (.inr r) :=
 forN_ret' st n 0 j0 (by omega) (by omega) (fun j _ b=>h j b) hr
theorem f_d {body:Nat→Unit→Option (Out Unit ρ)} {n:Nat} (p:Nat→Bool) (r:Nat→ρ) (h : ∀ k,k<n→(∀ j,j<k→p j=false)→body k ()=some (if p k=true then .ret (r k) else .next ())) :
  E_ body n 0 ()=some (match (List.range n).find? p with | some k=>.inr (r k) | none=>.inl ()):=by
 cases hf:(List.range n).find? p with
 | none =>
  have hn : ∀ k,k<n→p k=false:=fun k hk=>by
   have:=List.find?_eq_none.1 hf k<|List.mem_range.2 hk
   simpa using this
  exact d_w (fun _=>()) (fun j hj=>by rw [h j hj (fun i hi=>hn i (by omega)),hn j hj];rfl)
 | some k =>
  obtain ⟨hp,as,bs,hl,has⟩:=List.find?_eq_some_iff_append.1 hf
  have hk:as.length<n∧as.length=k:=by
   have h1:as.length<(List.range n).length:=by rw [hl];simp
   simp at h1
   refine ⟨h1,?_⟩;have h2:(List.range n)[as.length]? = some k:=by rw [hl];simp
   rw [List.getElem?_range h1] at h2
   exact Option.some.inj h2
  obtain ⟨h1,rfl⟩:=hk
  have hb : ∀ j,j<as.length→p j=false:=fun j hj=>by
   have h2:(List.range n)[j]? = some (as[j]):=by rw [hl,List.getElem?_append_left hj];simp
   rw [List.getElem?_range (by omega)] at h2
   have h3:=has as[j] (List.getElem_mem hj)
   rw [← Option.some.inj h2] at h3
   simpa using h3
  exact k_k (fun _=>()) h1 (fun j hj=>by rw [h j (by omega) (fun i hi=>hb i (by omega)),hb j hj];rfl) (by rw [h _ h1 hb,if_pos hp])
theorem q_i {α:Type} (l:List α) (p:α→Bool) (q:Nat→Bool) (h : ∀ k (hk:k<l.length),q k=p l[k]):(List.range l.length).any q=l.any p:=by
 rw [Bool.eq_iff_iff]
 simp only [List.any_eq_true,List.mem_range]
 constructor
 ·rintro ⟨k,hk,hq⟩;exact ⟨l[k],List.getElem_mem hk,by rw [← h k hk];exact hq⟩
 ·rintro ⟨x,hx,hp⟩;obtain ⟨k,hk,rfl⟩:=List.getElem_of_mem hx;exact ⟨k,hk,by rw [h k hk];exact hp⟩
theorem e_0 {body:Nat→Unit→Option (Out Unit ρ)} {n:Nat} (p:Nat→Bool) (r:ρ) (h : ∀ k,k<n→(∀ j,j<k→p j=false)→body k ()=some (if p k=true then .ret r else .next ())) :
  E_ body n 0 ()=some (if (List.range n).any p=true then .inr r else .inl ()):=by
 rw [f_d p (fun _=>r) h]
 cases hf:(List.range n).find? p with
 | none =>
  have:(List.range n).any p=false:=by
   rw [List.any_eq_false];exact fun x hx=>by simpa using List.find?_eq_none.1 hf x hx
  rw [this];rfl
 | some k =>
  have:(List.range n).any p=true:=List.any_eq_true.2 ⟨k,List.mem_of_find?_eq_some hf,List.find?_some hf⟩
  rw [this];rfl
theorem f_e {α:Type} {body:Nat→Unit→Option (Out Unit ρ)} {l:List α} (p:α→Bool) (r:ρ) (h : ∀ k (hk:k<l.length),body k ()=some (if p l[k]=true then .ret r else .next ())) :
  E_ body l.length 0 ()=some (if l.any p=true then .inr r else .inl ()):=by
 rw [e_0 (fun k=>if hk:k<l.length then p l[k] else false) r (fun k hk _=>by rw [dif_pos hk];exact h k hk)]
 rw [q_i l p _ (fun k hk=>by rw [dif_pos hk])]
theorem iter_brk' {step:σ→Option (Out σ ρ)} (st:Nat→σ) {s:σ} : ∀ m k j0,k≤j0→j0<k+m→(∀ j,k≤j→j<j0→step (st j)=some (.next<|st<|j+1))→step (st j0)=some (.brk s)→Y_ step m (st k)=some (.inl s)
 | 0,k,j0,a,b,_,_=>by omega
 | m+1,k,j0,a,b,h,hr=>by
  unfold Y_
  by_cases hk:k=j0
  ·subst hk;rw [hr]
  ·rw [h k (Nat.le_refl _) (by omega)]
   exact iter_brk' st m (k+1) j0 (by omega) (by omega) (fun j c d=>h j (by omega) d) hr
theorem m_r {step:σ→Option (Out σ ρ)} (st:Nat→σ) {s:σ} {m j0:Nat} (h0:j0<m) (h : ∀ j,j<j0→step (st j)=some (.next<|st<|j+1)) (hr:step (st j0)=some (.brk s)):Y_ step m (st 0)=some (.inl s) :=
 iter_brk' st m 0 j0 (by omega) (by omega) (fun j _ b=>h j b) hr
theorem iter_ret' {step:σ→Option (Out σ ρ)} (st:Nat→σ) {r:ρ} : ∀ m k j0,k≤j0→j0<k+m→(∀ j,k≤j→j<j0→step (st j)=some (.next<|st<|j+1))→step (st j0)=some (.ret r)→Y_ step m (st k)=some (.inr r)
 | 0,k,j0,a,b,_,_=>by omega
 | m+1,k,j0,a,b,h,hr=>by
  unfold Y_
  by_cases hk:k=j0
  ·subst hk;rw [hr]
  ·rw [h k (Nat.le_refl _) (by omega)]
   exact iter_ret' st m (k+1) j0 (by omega) (by omega) (fun j c d=>h j (by omega) d) hr
theorem m_s {step:σ→Option (Out σ ρ)} (st:Nat→σ) {r:ρ} {m j0:Nat} (h0:j0<m) (h : ∀ j,j<j0→step (st j)=some (.next<|st<|j+1)) (hr:step (st j0)=some (.ret r)):Y_ step m (st 0)=some (.inr r) :=
 iter_ret' st m 0 j0 (by omega) (by omega) (fun j _ b=>h j b) hr
end
theorem m_t {s:Str} {p:Nat} (h:p<s.b.length) (ha:s.b[p].toNat<128):dec s p=((s.b[p].toNat:Int),1):=by
 have h':p<(⟨s.b.toArray⟩:ByteArray).size:=by simpa [ByteArray.size] using h
 have hb:(⟨s.b.toArray⟩:ByteArray)[p]'h'=s.b[p]:=rfl;unfold dec
 rw [decode_ascii _ p h' (by rw [hb];exact ha),hb]
theorem q_j {s:Str} {p:Nat} (h:p<s.b.length) (ha:128≤s.b[p].toNat):128≤(dec s p).1:=by
 have h':p<(⟨s.b.toArray⟩:ByteArray).size:=by simpa [ByteArray.size] using h
 have hb:(⟨s.b.toArray⟩:ByteArray)[p]'h'=s.b[p]:=rfl;unfold dec;have:=(decode_high _ p h' (by rw [hb];exact ha)).1
 simp only
 omega
abbrev bF_:=@Bool.false_eq_true
abbrev dT_:=@decide_eq_true
abbrev dF_:=@decide_eq_false
abbrev bQ_:=@beq_self_eq_true
abbrev mT_:=@List.mem_cons_of_mem
abbrev mS_:=@List.mem_cons_self
abbrev gE_:=@List.getElem_mem
abbrev oI_:=@Option.some.injEq
abbrev gG_:=@List.getElem?_eq_getElem
abbrev gD_:=@List.getD_eq_getElem?_getD
abbrev aE_:=@Bool.and_eq_true
abbrev dE_:=@decide_eq_true_eq
abbrev tN_:=@Int.toNat_natCast
abbrev gS_:=@List.getElem?_eq_some_iff
abbrev iP_:=@if_pos
abbrev iN_:=@if_neg
abbrev fF_:=@if_false
abbrev fT_:=@if_true
abbrev gN_:=@List.getElem?_eq_none
abbrev nT_:=@Bool.not_true
abbrev ix_:=@k_j
abbrev ia_:=@q_f
abbrev lC_:=@List.length_cons
abbrev bN_:=@bne_self_eq_false
abbrev dC_:=@List.drop_eq_getElem_cons
end Go.Vw
