/- Texts of this claim, put together. -/
import Derived.Test.YtajhmimbhplkfaaGreatDoorVmA
import Derived.Carry
import Derived.Deep.DeepHandedRow
import Derived.WalkKit
import Derived.ProofKit
import Derived.OpenShut
import Derived.Laws.RangeAny
set_option linter.unusedVariables false
namespace Go.Vw
def g_k (x1:List UInt8):Option Bool :=
 some (decide<|1048576<(x1.length:Int))
def d_X (n:Nat) (x1:List UInt8):Option D_ :=
 bd (a_f (σ:=Int×Int) (ρ:=D_) (un2 fun x11 x10=>bd (α:=Bool) (if (decide<|x10<(x1.length:Int))=true then some (decide<|x10<4000) else some false) (fun x12=>if x12=true then bd (idx x1 x10) fun x13=>some (.next (a_u .i64 (· &&& ·) (j_ (j_ (a_e x11 137)<|byteI x13) 11) 1073741823,j_ x10 1)) else some (.brk (x11,x10)))) n (j_ 193017 (x1.length:Int),0)) (el (un2 fun x11 x10=>some (⟨x1,0,x11⟩:D_))<|fun r14=>some r14)
def c_l (x1:D_):Option (Int×Int×Int) :=
 bd (α:=Int×Int) (if (decide<|x1.i<(x1.b.length:Int))=true then bd (idx x1.b x1.i) fun x10=>some (a_u .i64 (· &&& ·) (j_ (a_u .i64 (· &&& ·) (a_u .i64 (· ^^^ ·) (b_Q .i64 (j_ (a_e x1.h 6364136223846793005) 1442695040888963407) 33)<|b_Q .i64 (j_ (a_e x1.h 6364136223846793005) 1442695040888963407) 47) 255)<|byteI x10) 255,j_ x1.i 1) else some (a_u .i64 (· &&& ·) (a_u .i64 (· ^^^ ·) (b_Q .i64 (j_ (a_e x1.h 6364136223846793005) 1442695040888963407) 33)<|b_Q .i64 (j_ (a_e x1.h 6364136223846793005) 1442695040888963407) 47) 255,x1.i)) (un2 fun x11 x12=>some (x11,x12,j_ (a_e x1.h 6364136223846793005) 1442695040888963407))
def a_m (x1:D_) (x2:Int):Option (Int×Int×Int) :=
 if (decide<|x2≤0)=true then some (0,x1.i,x1.h) else if (decide<|x2≤256)=true then bd3 (c_l x1) fun r10 r11 r12=>bd (nz x2) fun u1c=>some (a_W r10 x2,r11,r12) else bd3 (c_l x1) fun r13 r14 r15=>bd3 (c_l (⟨x1.b,r14,r15⟩:D_)) fun r16 r17 r18=>bd3 (c_l (⟨x1.b,r17,r18⟩:D_)) fun r19 r1a r1b=>bd (nz x2) fun u1d=>some (a_W (j_ (j_ (a_e r13 65536)<|a_e r16 256) r19) x2,r1a,r1b)
def c_S (x1:D_) (x2:List Str):Option (Str×Int×Int) :=
 bd3 (a_m x1 (x2.length:Int)) fun r10 r11 r12=>bd (idx x2 r10) fun x13=>some (x13,r11,r12)
def c_T (x1:D_) (x2:Int):Option (Bool×Int×Int) :=
 bd3 (a_m x1 x2) fun r10 r11 r12=>some (r10==0,r11,r12)
def c_U (x1:D_) (x2:Int):Option ((List UInt8)×Int×Int) :=
 bd (C_ (σ:=(List UInt8)×Int×Int) (ρ:=(List UInt8)×Int×Int) (fun k18=>un3 fun x10 x11 x12=>bd3 (c_l (⟨x1.b,x11,x12⟩:D_)) fun r13 r14 r15=>bd (psh x10<|mkB r13) fun x16=>some<|.next (x16,r14,r15)) x2.toNat 0 (([]:List UInt8),x1.i,x1.h)) (el (un3 fun x10 x11 x12=>some (x10,x11,x12))<|fun r17=>some r17)
def d_o (x1:D_) (x2:List Int):Option (Int×Int×Int) :=
 bd3 (a_m x1 (x2.length:Int)) fun r10 r11 r12=>bd (idx x2 r10) fun x13=>some (x13,r11,r12)
def d_p (x1:D_) (x2:d_):Option (Int×Int×Int) :=
 bd (C_ (σ:=List Int) (ρ:=Int×Int×Int) (fun k11=>(fun x10=>bd (idx x2.rules (k11:Int)) fun x12=>bd (α:=List Int) (if (x12.kind==1)=true then bd (psh x10 (k11:Int)) fun x13=>some x13 else some x10)<|fun x14=>some<|.next x14)) x2.rules.length 0 ([]:List Int)) (el (fun x10=>bd3 (d_o x1 x10) fun r15 r16 r17=>some (r15,r16,r17))<|fun r18=>some r18)
def d_q (n:Nat) (x1:D_) (x2:d_) (x3:Int):Option (g_×Int×Int) :=
 bd3 (c_S x1 [(⟨[97]⟩:Str),(⟨[105,116,101,109]⟩:Str),(⟨[98]⟩:Str),(⟨[104,101,97,100]⟩:Str),(⟨[120]⟩:Str)]) fun r1f r10 r11=>bd (c_O n (x2.rules.length:Int)) fun r1g=>bd (cat r1f r1g) fun x1h=>bd (α:=Sum (Int×Int×Int×Bool×(List UInt8)×(List Str)×(List Int)×(List Int))<|g_×Int×Int) (if (x3==1)=true then bd3 (a_m (⟨x1.b,r10,r11⟩:D_) 3) fun r1c r1d r1e=>bd (α:=Int×Int×Bool) (if (decide<|1<(j_ 1 r1c))=true then bd3 (c_T (⟨x1.b,r1d,r1e⟩:D_) 2) fun r1i r1j r1k=>some (r1j,r1k,r1i) else some (r1d,r1e,false)) (un3 fun x1l x1m x1n=>some<|.inl (x1l,x1m,j_ 1 r1c,x1n,([]:List UInt8),([]:List Str),([]:List Int),([]:List Int))) else bd (α:=Sum (Int×Int×Int×(List UInt8)×(List Str)×(List Int)×(List Int))<|Sum (Int×Int×Int×Bool×(List UInt8)×(List Str)×(List Int)×(List Int))<|g_×Int×Int) (if (x3==2)=true then bd3 (a_m (⟨x1.b,r10,r11⟩:D_) 3) fun r1o r1p r1q=>bd3 (c_U (⟨x1.b,r1p,r1q⟩:D_)<|j_ 1 r1o) fun r1r r1s r1t=>some (.inl (r1s,r1t,0,r1r,([]:List Str),([]:List Int),([]:List Int))) else bd (α:=Sum (Int×Int×Int×(List UInt8)×(List Str)×(List Int)×(List Int))<|Sum (Int×Int×Int×(List UInt8)×(List Str)×(List Int)×(List Int))<|Sum (Int×Int×Int×Bool×(List UInt8)×(List Str)×(List Int)×(List Int))<|g_×Int×Int) (if (x3==3)=true then bd3 (a_m (⟨x1.b,r10,r11⟩:D_) 4) fun r1u r1v r1w=>some (.inl (r1v,r1w,j_ 1 r1u,([]:List UInt8),([]:List Str),([]:List Int),([]:List Int))) else bd (α:=Sum (Int×Int×(List UInt8)×(List Str)×(List Int)×(List Int))<|Sum (Int×Int×Int×(List UInt8)×(List Str)×(List Int)×(List Int))<|Sum (Int×Int×Int×(List UInt8)×(List Str)×(List Int)×(List Int))<|Sum (Int×Int×Int×Bool×(List UInt8)×(List Str)×(List Int)×(List Int))<|g_×Int×Int) (if (x3==4)=true then bd3 (d_p (⟨x1.b,r10,r11⟩:D_) x2) fun r1x r1y r1z=>some (.inl (r1y,r1z,([]:List UInt8),([]:List Str),([]:List Int),[r1x])) else bd (α:=Sum (Int×Int×(List UInt8)×(List Str)×(List Int)×(List Int))<|Sum (Int×Int×(List UInt8)×(List Str)×(List Int)×(List Int))<|Sum (Int×Int×Int×(List UInt8)×(List Str)×(List Int)×(List Int))<|Sum (Int×Int×Int×(List UInt8)×(List Str)×(List Int)×(List Int))<|Sum (Int×Int×Int×Bool×(List UInt8)×(List Str)×(List Int)×(List Int))<|g_×Int×Int) (if (x3==5)=true then bd3 (d_p (⟨x1.b,r10,r11⟩:D_) x2) fun r20 r21 r22=>bd3 (a_m (⟨x1.b,r21,r22⟩:D_) (x2.rules.length:Int)) fun r23 r24 r25=>some (.inl (r24,r25,([]:List UInt8),([]:List Str),([]:List Int),[r20,r23])) else bd (α:=Sum (Int×Int×(List UInt8)×(List Str)×(List Int)×(List Int))<|Sum (Int×Int×(List UInt8)×(List Str)×(List Int)×(List Int))<|Sum (Int×Int×(List UInt8)×(List Str)×(List Int)×(List Int))<|Sum (Int×Int×Int×(List UInt8)×(List Str)×(List Int)×(List Int))<|Sum (Int×Int×Int×(List UInt8)×(List Str)×(List Int)×(List Int))<|Sum (Int×Int×Int×Bool×(List UInt8)×(List Str)×(List Int)×(List Int))<|g_×Int×Int) (if (x3==6)=true then bd3 (a_m (⟨x1.b,r10,r11⟩:D_) 3) fun r26 r27 r28=>bd (a_f (σ:=Int×Int×Int×(List Str)×(List Int)) (ρ:=g_×Int×Int) (un5 fun x12 x14 x15 x16 x17=>if (decide<|0<x12)=true then bd3 (c_S (⟨x1.b,x14,x15⟩:D_) [(⟨[112]⟩:Str),(⟨[113]⟩:Str),(⟨[114]⟩:Str)]) fun r29 r2a r2b=>bd (c_O n x12) fun r2c=>bd (cat r29 r2c) fun x2d=>bd (psh x16 x2d) fun x2e=>bd3 (a_m (⟨x1.b,r2a,r2b⟩:D_) (x2.rules.length:Int)) fun r2f r2g r2h=>bd (psh x17 r2f) fun x2i=>some (.next (I_ x12 1,r2g,r2h,x2e,x2i)) else some (.brk (x12,x14,x15,x16,x17))) n (j_ 1 r26,r27,r28,([]:List Str),([]:List Int))) (el (un5 fun x12 x14 x15 x16 x17=>some<|.inl (x14,x15,([]:List UInt8),x16,([]:List Int),x17))<|fun r2j=>some<|.inr<|.inr<|.inr<|.inr<|.inr<|.inr r2j) else bd (α:=Sum (Int×Int×(List UInt8)×(List Int)×(List Int))<|Sum (Int×Int×(List UInt8)×(List Str)×(List Int)×(List Int))<|Sum (Int×Int×(List UInt8)×(List Str)×(List Int)×(List Int))<|Sum (Int×Int×(List UInt8)×(List Str)×(List Int)×(List Int))<|Sum (Int×Int×Int×(List UInt8)×(List Str)×(List Int)×(List Int))<|Sum (Int×Int×Int×(List UInt8)×(List Str)×(List Int)×(List Int))<|Sum (Int×Int×Int×Bool×(List UInt8)×(List Str)×(List Int)×(List Int))<|g_×Int×Int) (if (x3==7)=true then bd3 (d_p (⟨x1.b,r10,r11⟩:D_) x2) fun r2k r2l r2m=>bd3 (a_m (⟨x1.b,r2l,r2m⟩:D_) 3) fun r2n r2o r2p=>bd (a_f (σ:=Int×Int×Int×(List Int)×(List Int)) (ρ:=g_×Int×Int) (un5 fun x18 x19 x1a x13 x1b=>if (decide<|0<x18)=true then bd3 (a_m (⟨x1.b,x19,x1a⟩:D_) 4) fun r2q r2r r2s=>bd (psh x13<|j_ (a_e 4 (x13.length:Int)) r2q) fun x2t=>bd3 (a_m (⟨x1.b,r2r,r2s⟩:D_) (x2.rules.length:Int)) fun r2u r2v r2w=>bd (psh x1b r2u) fun x2x=>some (.next (I_ x18 1,r2v,r2w,x2t,x2x)) else some (.brk (x18,x19,x1a,x13,x1b))) n (j_ 1 r2n,r2o,r2p,([]:List Int),[r2k])) (el (un5 fun x18 x19 x1a x13 x1b=>some<|.inl (x19,x1a,([]:List UInt8),x13,x1b))<|fun r2y=>some<|.inr<|.inr<|.inr<|.inr<|.inr<|.inr<|.inr r2y) else bd (α:=Bool) (if (x3==8)=true then some (x3==8) else some (x3==9)) (fun x2z=>bd (α:=Int×Int×(List UInt8)×(List Int)) (if x2z=true then bd3 (a_m (⟨x1.b,r10,r11⟩:D_) (x2.rules.length:Int)) fun r30 r31 r32=>some (r31,r32,([]:List UInt8),[r30]) else bd (α:=Int×Int×(List UInt8)) (if (x3==10)=true then bd3 (d_o (⟨x1.b,r10,r11⟩:D_) [0,10,59,255]) fun r33 r34 r35=>some (r34,r35,[mkB r33]) else some (r10,r11,([]:List UInt8))) (un3 fun x36 x37 x38=>some (x36,x37,x38,([]:List Int))))<|un4 fun x39 x3a x3b x3c=>some<|.inl (x39,x3a,x3b,([]:List Int),x3c))) (el (un5 fun x3d x3e x3f x3g x3h=>some<|.inl (x3d,x3e,x3f,([]:List Str),x3g,x3h)) some)) (el (un6 fun x3i x3j x3k x3l x3m x3n=>some<|.inl (x3i,x3j,x3k,x3l,x3m,x3n)) some)) (el (un6 fun x3o x3p x3q x3r x3s x3t=>some<|.inl (x3o,x3p,x3q,x3r,x3s,x3t)) some)) (el (un6 fun x3u x3v x3w x3x x3y x3z=>some<|.inl (x3u,x3v,0,x3w,x3x,x3y,x3z)) some)) (el (un7 fun x40 x41 x42 x43 x44 x45 x46=>some<|.inl (x40,x41,x42,x43,x44,x45,x46)) some)) (el (un7 fun x47 x48 x49 x4a x4b x4c x4d=>some<|.inl (x47,x48,x49,false,x4a,x4b,x4c,x4d)) some))<|el (un8 fun x4e x4f x4g x4h x4i x4j x4k x4l=>some ((⟨x1h,x3,x4g,x4h,x4i,x4j,x4k,x4l⟩:g_),x4e,x4f)) some
def e_J (n:Nat) (x1:D_):Option (d_×Int×Int) :=
 bd3 (d_q n x1 (⟨([]:List g_)⟩:d_) 1) fun r14 r15 r16=>bd (psh ([]:List g_) r14) fun x17=>bd3 (a_m (⟨x1.b,r15,r16⟩:D_) 6) fun r18 r19 r1a=>bd (a_f (σ:=Int×Int×Int×(List g_)) (ρ:=d_×Int×Int) (un4 fun x11 x12 x13 x10=>if (decide<|0<x11)=true then bd3 (a_m (⟨x1.b,x12,x13⟩:D_) 10) fun r1b r1c r1d=>bd3 (d_q n (⟨x1.b,r1c,r1d⟩:D_) (⟨x10⟩:d_)<|j_ 1 r1b) fun r1e r1f r1g=>bd (psh x10 r1e) fun x1h=>some (.next (I_ x11 1,r1f,r1g,x1h)) else some (.brk (x11,x12,x13,x10))) n (r18,r19,r1a,x17))<|el (un4 fun x11 x12 x13 x10=>some ((⟨x10⟩:d_),x12,x13))<|fun r1i=>some r1i
structure g_l where
 spec_l9Make:D_→d_→Int→Int→Option (Val×Int×Int)
def e_K (n:Nat) (rec:g_l) (x1:D_) (x2:d_) (x3:Int) (x4:Int):Option (Val×Int×Int) :=
 bd (idx x2.rules x3) fun x10=>bd (α:=Sum (Int×Int×Int×(List UInt8)×(List Val))<|Val×Int×Int) (if (x10.kind==1)=true then bd (c_B x10.size) fun r1g=>bd (c_j r1g 70000) fun r1h=>bd3 (a_m x1 r1h) fun r1i r1j r1k=>some (.inl (r1j,r1k,r1i,([]:List UInt8),([]:List Val))) else bd (α:=Sum (Int×Int×Int×(List UInt8)×(List Val))<|Sum (Int×Int×Int×(List UInt8)×(List Val))<|Val×Int×Int) (if (x10.kind==3)=true then bd3 (c_U x1 x10.size) fun r1l r1m r1n=>some (.inl (r1m,r1n,0,r1l,([]:List Val))) else bd (α:=Bool) (if (x10.kind==4)=true then some (x10.kind==4) else some (x10.kind==10)) (fun x1o=>bd (α:=Sum (Int×Int×Int×(List UInt8)×(List Val))<|Sum (Int×Int×Int×(List UInt8)×(List Val))<|Sum (Int×Int×Int×(List UInt8)×(List Val))<|Val×Int×Int) (if x1o=true then bd (c_j x4 6) fun r1p=>bd3 (a_m x1<|j_ r1p 1) fun r1q r1r r1s=>bd3 (c_U (⟨x1.b,r1r,r1s⟩:D_) r1q) fun r15 r16 r17=>bd (α:=Bool×Int×Int) (if (x10.kind==10)=true then if (decide<|0<(r15.length:Int))=true then bd3 (c_T (⟨x1.b,r16,r17⟩:D_) 2) fun r1t r1u r1v=>some (r1t,r1u,r1v) else some (false,r16,r17) else some (false,r16,r17)) (un3 fun x1w x1b x1c=>bd (α:=Int×Int×(List UInt8)) (if x1w=true then bd (idx x10.bytes 0) fun x1x=>bd3 (d_o (⟨x1.b,x1b,x1c⟩:D_) [byteI x1x,92]) fun r1y r1z r20=>bd (upd r15 0<|mkB r1y) fun x21=>some (r1z,r20,x21) else some (x1b,x1c,r15))<|un3 fun x22 x23 x24=>some<|.inl (x22,x23,0,x24,([]:List Val))) else bd (α:=Sum (Int×Int×Int×(List Val))<|Sum (Int×Int×Int×(List UInt8)×(List Val))<|Sum (Int×Int×Int×(List UInt8)×(List Val))<|Sum (Int×Int×Int×(List UInt8)×(List Val))<|Val×Int×Int) (if (x10.kind==5)=true then bd (c_j x4 3) fun r25=>bd3 (a_m x1<|j_ r25 1) fun r26 r27 r28=>bd (a_f (σ:=Int×Int×Int×(List Val)) (ρ:=Val×Int×Int) (un4 fun x11 x12 x13 x14=>if (decide<|0<x11)=true then bd (idx x10.kids 1) fun x29=>bd3 (rec.spec_l9Make (⟨x1.b,x12,x13⟩:D_) x2 x29<|b_F x4 2) fun r2a r2b r2c=>bd (psh x14 r2a) fun x2d=>some (.next (I_ x11 1,r2b,r2c,x2d)) else some (.brk (x11,x12,x13,x14))) n (r26,r27,r28,([]:List Val))) (el (un4 fun x11 x12 x13 x14=>some<|.inl (x12,x13,0,x14))<|fun r2e=>some<|.inr<|.inr<|.inr<|.inr r2e) else bd (α:=Sum (Int×Int×Int×(List Val))<|Sum (Int×Int×Int×(List Val))<|Sum (Int×Int×Int×(List UInt8)×(List Val))<|Sum (Int×Int×Int×(List UInt8)×(List Val))<|Sum (Int×Int×Int×(List UInt8)×(List Val))<|Val×Int×Int) (if (x10.kind==6)=true then bd (C_ (σ:=Int×Int×(List Val)) (ρ:=Val×Int×Int) (fun k2f=>un3 fun x18 x19 x1a=>bd (idx x10.kids (k2f:Int)) fun x2g=>bd3 (rec.spec_l9Make (⟨x1.b,x18,x19⟩:D_) x2 x2g<|b_F x4 2) fun r2h r2i r2j=>bd (psh x1a r2h) fun x2k=>some<|.next (r2i,r2j,x2k)) x10.kids.length 0 (x1.i,x1.h,([]:List Val))) (el (un3 fun x18 x19 x1a=>some<|.inl (x18,x19,0,x1a))<|fun r2l=>some<|.inr<|.inr<|.inr<|.inr<|.inr r2l) else bd (α:=Int×Int×Int×(List Val)) (if (x10.kind==7)=true then bd3 (a_m x1 (x10.tags.length:Int)) fun r1d r2m r2n=>bd (idx x10.tags r1d) fun x2o=>bd (idx x10.kids<|j_ r1d 1) fun x2p=>bd3 (rec.spec_l9Make (⟨x1.b,r2m,r2n⟩:D_) x2 x2p<|b_F x4 2) fun r2q r2r r2s=>some (r2r,r2s,x2o,[r2q]) else bd (α:=Int×Int×(List Val)) (if (x10.kind==8)=true then bd3 (c_T x1 2) fun r2t r1e r1f=>bd (α:=Int×Int×(List Val)) (if r2t=true then bd (idx x10.kids 0) fun x2u=>bd3 (rec.spec_l9Make (⟨x1.b,r1e,r1f⟩:D_) x2 x2u<|b_F x4 2) fun r2v r2w r2x=>some (r2w,r2x,[r2v]) else some (r1e,r1f,([]:List Val))) (un3 fun x2y x2z x30=>some (x2y,x2z,x30)) else bd (α:=Int×Int×(List Val)) (if (x10.kind==9)=true then bd (idx x10.kids 0) fun x31=>bd3 (rec.spec_l9Make x1 x2 x31<|b_F x4 2) fun r32 r33 r34=>some (r33,r34,[r32]) else some (x1.i,x1.h,([]:List Val))) (un3 fun x35 x36 x37=>some (x35,x36,x37))) (un3 fun x38 x39 x3a=>some (x38,x39,0,x3a))) (un4 fun x3b x3c x3d x3e=>some<|.inl (x3b,x3c,x3d,x3e))) (el (un4 fun x3f x3g x3h x3i=>some<|.inl (x3f,x3g,x3h,x3i)) some)) (el (un4 fun x3j x3k x3l x3m=>some<|.inl (x3j,x3k,x3l,([]:List UInt8),x3m)) some))<|el (un5 fun x3n x3o x3p x3q x3r=>some<|.inl (x3n,x3o,x3p,x3q,x3r)) some)) (el (un5 fun x3s x3t x3u x3v x3w=>some<|.inl (x3s,x3t,x3u,x3v,x3w)) some))<|el (un5 fun x3x x3y x3z x40 x41=>some ((⟨x3z,x40,x41⟩:Val),x3x,x3y)) some
def d_r:Nat→g_l
 | 0=>⟨fun _ _ _ _=>none⟩
 | n+1=>⟨e_K n<|d_r n⟩
def j_y (n:Nat):=(d_r n).spec_l9Make
def e_L (n:Nat) (x1:Int) (x2:Int):Option (List UInt8) :=
 bd (e_C n x1 x2) fun r12=>bd (a_f (σ:=(List UInt8)×Int) (ρ:=List UInt8) (un2 fun x11 x10=>if (decide<|0≤x10)=true then bd (idx r12 x10) fun x13=>bd (psh x11 x13) fun x14=>some (.next (x14,I_ x10 1)) else some (.brk (x11,x10))) n (([]:List UInt8),I_ (r12.length:Int) 1))<|el (un2 fun x11 x10=>some x11)<|fun r15=>some r15
def c_V (n:Nat) (x1:g_) (x2:Int):Option (List UInt8) :=
 if x1.little=true then bd (e_L n x2 x1.size) fun r10=>some r10 else bd (e_C n x2 x1.size) fun r11=>some r11
structure j_z where
 spec_l11Print:d_→Int→Val→Option (List UInt8)
def e_M (n:Nat) (rec:j_z) (x1:d_) (x2:Int) (x3:Val):Option (List UInt8) :=
 bd (idx x1.rules x2) fun x10=>bd (C_ (σ:=List UInt8) (ρ:=List UInt8) (fun k14=>(fun x11=>bd (idx x3.items (k14:Int)) fun x15=>bd (b_u x10 x3.number (k14:Int)) fun r16=>bd (rec.spec_l11Print x1 r16 x15) fun r17=>bd (app x11 r17) fun x18=>some<|.next x18)) x3.items.length 0 ([]:List UInt8)) (el (fun x11=>if (x10.kind==1)=true then bd (c_V n x10 x3.number) fun r19=>some r19 else if (x10.kind==2)=true then bd (app ([]:List UInt8) x10.bytes) fun x1a=>some x1a else if (x10.kind==4)=true then bd (idx x10.kids 0) fun x1b=>bd (idx x1.rules x1b) fun x1c=>bd (c_V n x1c (x3.bytes.length:Int)) fun r1d=>bd (app r1d x3.bytes) fun x1e=>some x1e else if (x10.kind==5)=true then bd (idx x10.kids 0) fun x1f=>bd (idx x1.rules x1f) fun x1g=>bd (c_V n x1g (x3.items.length:Int)) fun r1h=>bd (app r1h x11) fun x1i=>some x1i else if (x10.kind==7)=true then bd (idx x10.kids 0) fun x1j=>bd (idx x1.rules x1j) fun x1k=>bd (c_V n x1k x3.number) fun r1l=>bd (app r1l x11) fun x1m=>some x1m else if (x10.kind==8)=true then bd (app [mkB (x3.items.length:Int)] x11) fun x1n=>some x1n else if (x10.kind==9)=true then bd (e_s x11) fun r1o=>bd (psh x11<|mkB r1o) fun x1p=>some x1p else if (x10.kind==10)=true then bd (C_ (σ:=List UInt8) (ρ:=List UInt8) (fun k13=>(fun x12=>bd (α:=Bool) (bd (idx x3.bytes (k13:Int)) fun x1q=>bd (idx x10.bytes 0) fun x1r=>if ((byteI x1q)==(byteI x1r))=true then some true else bd (idx x3.bytes (k13:Int)) fun x1s=>some<|(byteI x1s)==(byteI (92:UInt8))) (fun x1t=>bd (α:=List UInt8) (if x1t=true then bd (psh x12 (92:UInt8)) fun x1u=>some x1u else some x12)<|fun x1v=>bd (idx x3.bytes (k13:Int)) fun x1w=>bd (psh x1v x1w) fun x1x=>some<|.next x1x))) x3.bytes.length 0 x11) (el (fun x12=>bd (idx x10.bytes 0) fun x1y=>bd (psh x12 x1y) fun x1z=>some x1z)<|fun r20=>some r20) else if (x10.kind==3)=true then bd (app ([]:List UInt8) x3.bytes) fun x21=>some x21 else some x11)<|fun r22=>some r22)
def c_W:Nat→j_z
 | 0=>⟨fun _ _ _=>none⟩
 | n+1=>⟨e_M n<|c_W n⟩
def e_N (n:Nat):=(c_W n).spec_l11Print
def d_Y (x1:List UInt8) (x2:List UInt8):Option Bool :=
 if ((x1.length:Int) != (x2.length:Int))=true then some false else bd (C_ (σ:=Unit) (ρ:=Bool) (fun k10=>(fun (_:Unit)=>bd (idx x1 (k10:Int)) fun x11=>bd (idx x2 (k10:Int)) fun x12=>if ((byteI x11) != (byteI x12))=true then some (.ret false) else some (.next ()))) x1.length 0 ()) (el (fun (_:Unit)=>some true)<|fun r13=>some r13)
end Go.Vw
namespace Go.Vw
structure j_n where
 spec_l9Default:d_→Int→Option Val
def f_h (n:Nat) (rec:j_n) (x1:d_) (x2:Int):Option Val :=
 bd (idx x1.rules x2) fun x10=>if (x10.kind==3)=true then bd (mk0 (0:UInt8) x10.size) fun x12=>some (⟨0,x12,([]:List Val)⟩:Val) else if (x10.kind==7)=true then bd (idx x10.tags 0) fun x13=>bd (idx x10.kids 1) fun x14=>bd (rec.spec_l9Default x1 x14) fun r15=>some (⟨x13,([]:List UInt8),[r15]⟩:Val) else bd (α:=Bool) (if (x10.kind==6)=true then some (x10.kind==6) else some (x10.kind==9)) (fun x16=>if x16=true then bd (C_ (σ:=List Val) (ρ:=Val) (fun k17=>(fun x11=>bd (idx x10.kids (k17:Int)) fun x18=>bd (rec.spec_l9Default x1 x18) fun r19=>bd (psh x11 r19) fun x1a=>some<|.next x1a)) x10.kids.length 0 ([]:List Val)) (el (fun x11=>some (⟨0,([]:List UInt8),x11⟩:Val))<|fun r1b=>some r1b) else some (⟨0,([]:List UInt8),([]:List Val)⟩:Val))
def d_M:Nat→j_n
 | 0=>⟨fun _ _=>none⟩
 | n+1=>⟨f_h n<|d_M n⟩
def l_g (n:Nat):=(d_M n).spec_l9Default
def h_c (n:Nat) (x1:d_) (x2:Int):Option Val :=
 bd (d_O x1 x2) fun r10=>if (!r10)=true then some (⟨0,([]:List UInt8),([]:List Val)⟩:Val) else bd (l_g n x1 x2) fun r11=>some r11
def f_i (x1:d_) (x2:g_) (x3:Val):Option Bool :=
 if (x2.kind==1)=true then bd (α:=Bool) (bd (c_B x2.size) fun r10=>bd (a_I x3.number 0<|I_ r10 1) fun r11=>if r11=true then if ((x3.bytes.length:Int)==0)=true then some ((x3.items.length:Int)==0) else some false else some false) (fun x12=>some x12) else if (x2.kind==2)=true then bd (α:=Bool) (if (x3.number==0)=true then if ((x3.bytes.length:Int)==0)=true then some ((x3.items.length:Int)==0) else some false else some false) (fun x13=>some x13) else if (x2.kind==3)=true then bd (α:=Bool) (if (x3.number==0)=true then if ((x3.bytes.length:Int)==x2.size)=true then some ((x3.items.length:Int)==0) else some false else some false) (fun x14=>some x14) else if (x2.kind==4)=true then bd (α:=Bool) (if (x3.number==0)=true then bd (idx x2.kids 0) fun x15=>bd (c_P x1 x15) fun r16=>bd (c_j 400 r16) fun r17=>if (decide<|(x3.bytes.length:Int)≤r17)=true then some ((x3.items.length:Int)==0) else some false else some false) (fun x18=>some x18) else if (x2.kind==10)=true then bd (α:=Bool) (if (x3.number==0)=true then if (decide<|(x3.bytes.length:Int)≤400)=true then some ((x3.items.length:Int)==0) else some false else some false) (fun x19=>some x19) else if (x2.kind==5)=true then bd (α:=Bool) (if (x3.number==0)=true then if ((x3.bytes.length:Int)==0)=true then bd (idx x2.kids 0) fun x1a=>bd (c_P x1 x1a) fun r1b=>bd (c_j 40 r1b) fun r1c=>some (decide<|(x3.items.length:Int)≤r1c) else some false else some false) (fun x1d=>some x1d) else if (x2.kind==6)=true then bd (α:=Bool) (if (x3.number==0)=true then if ((x3.bytes.length:Int)==0)=true then some ((x3.items.length:Int)==(x2.kids.length:Int)) else some false else some false) (fun x1e=>some x1e) else if (x2.kind==7)=true then bd (α:=Bool) (if ((x3.bytes.length:Int)==0)=true then if ((x3.items.length:Int)==1)=true then bd (b_u x2 x3.number 0) fun r1f=>some (decide<|0≤r1f) else some false else some false) (fun x1g=>some x1g) else if (x2.kind==8)=true then bd (α:=Bool) (if (x3.number==0)=true then if ((x3.bytes.length:Int)==0)=true then some (decide<|(x3.items.length:Int)≤1) else some false else some false) (fun x1h=>some x1h) else bd (α:=Bool) (if (x3.number==0)=true then if ((x3.bytes.length:Int)==0)=true then some ((x3.items.length:Int)==1) else some false else some false) (fun x1i=>some x1i)
structure l_h where
 spec_l9Valid:d_→Int→Val→Option Bool
def f_j (n:Nat) (rec:l_h) (x1:d_) (x2:Int) (x3:Val):Option Bool :=
 bd (idx x1.rules x2) fun x10=>bd (f_i x1 x10 x3) fun r12=>if (!r12)=true then some false else bd (C_ (σ:=Unit) (ρ:=Bool) (fun k11=>(fun (_:Unit)=>bd (idx x3.items (k11:Int)) fun x13=>bd (b_u x10 x3.number (k11:Int)) fun r14=>bd (rec.spec_l9Valid x1 r14 x13) fun r15=>if (!r15)=true then some (.ret false) else some (.next ()))) x3.items.length 0 ()) (el (fun (_:Unit)=>some true)<|fun r16=>some r16)
def d_g:Nat→l_h
 | 0=>⟨fun _ _ _=>none⟩
 | n+1=>⟨f_j n<|d_g n⟩
def h_d (n:Nat):=(d_g n).spec_l9Valid
def h_e (n:Nat) (x1:d_) (x2:Int) (x3:Val):Option Bool :=
 bd (α:=Bool) (bd (d_O x1 x2) fun r10=>if r10=true then bd (h_d n x1 x2 x3) fun r11=>some r11 else some false) (fun x12=>some x12)
def h_f (n:Nat) (x1:d_) (x2:Int) (x3:Val):Option ((List UInt8)×Bool) :=
 bd (h_e n x1 x2 x3) fun r11=>if (!r11)=true then some (([]:List UInt8),false) else bd (e_N n x1 x2 x3) fun r10=>if (decide<|400<(r10.length:Int))=true then some (([]:List UInt8),false) else some (r10,true)
def h_g (n:Nat) (x1:d_) (x2:Val):Option ((List UInt8)×Bool) :=
 bd (d_h x1) fun r10=>bd2 (h_f n x1 r10 x2) fun r11 r12=>some (r11,r12)
def f_k (n:Nat) (x1:d_):Option ((List UInt8)×Bool) :=
 bd (d_h x1) fun r10=>bd (h_c n x1 r10) fun r11=>bd2 (h_g n x1 r11) fun r12 r13=>some (r12,r13)
def f_l (n:Nat) (x1:List UInt8):Option (d_×(List UInt8)×(List e_)) :=
 bd (d_X n x1) fun r11=>bd3 (e_J n r11) fun r10 r14 r15=>bd3 (j_y n (⟨r11.b,r14,r15⟩:D_) r10 (I_ (r10.rules.length:Int) 1) 10) fun r16 r19 r1a=>bd (e_N n r10 (I_ (r10.rules.length:Int) 1) r16) fun r12=>bd (α:=List UInt8) (if (decide<|400<(r12.length:Int))=true then bd2 (f_k n r10) fun r17 r1b=>some r17 else some r12)<|fun x13=>bd2 (e_B n r10 x13) fun r18 r1c=>some (r10,x13,r18)
def h_h (x1:List e_) (x2:List e_):Option Bool :=
 if ((x1.length:Int) != (x2.length:Int))=true then some false else bd (C_ (σ:=Unit) (ρ:=Bool) (fun k10=>(fun (_:Unit)=>bd (idx x1 (k10:Int)) fun x11=>bd (idx x2 (k10:Int)) fun x12=>if (!decide ((x11:e_)=(x12:e_)))=true then some (.ret false) else some (.next ()))) x1.length 0 ()) (el (fun (_:Unit)=>some true)<|fun r13=>some r13)
def f_m (x1:List e_) (x2:List e_):Option Bool :=
 bd (h_h x1 x2) fun r10=>some r10
def f_n (n:Nat) (x1:List UInt8):Option (d_×(List e_)×(List UInt8)×Int×Int×(List UInt8)) :=
 bd3 (f_l n x1) fun r17 r10 r18=>bd (d_X n x1) fun r11=>bd3 (a_m r11<|j_ (r10.length:Int) 2) fun r12 r19 r1a=>bd3 (a_m (⟨r11.b,r19,r1a⟩:D_) 3) fun r13 r1b r1c=>bd3 (a_m (⟨r11.b,r1b,r1c⟩:D_) 3) fun r1d r1e r1f=>bd3 (c_U (⟨r11.b,r1e,r1f⟩:D_) r1d) fun r16 r14 r15=>bd (α:=Bool×Int×Int) (if (r13==(r16.length:Int))=true then bd (a_I (I_ r12 1) 0<|I_ (r10.length:Int) 1) fun r1g=>if r1g=true then bd3 (c_T (⟨r11.b,r14,r15⟩:D_) 2) fun r1h r1i r1j=>some (r1h,r1i,r1j) else some (false,r14,r15) else some (false,r14,r15)) (un3 fun x1k x1p x1q=>bd (α:=List UInt8) (if x1k=true then bd (c_j (r10.length:Int)<|j_ (I_ r12 1) r13) fun r1l=>bd (slc r10 (I_ r12 1) r1l) fun x1m=>bd (app ([]:List UInt8) x1m) fun x1n=>some x1n else some r16)<|fun x1o=>some (r17,r18,r10,I_ r12 1,r13,x1o))
def f_o (n:Nat) (x1:d_) (x2:List e_) (x3:List UInt8) (x4:Int) (x5:Int) (x6:List UInt8):Option ((List UInt8)×(List e_)×Bool) :=
 bd2 (f_Y x3 x4 x5 x6) fun r10 r11=>bd (α:=Sum Unit<|(List UInt8)×(List e_)×Bool) (if r11=true then bd2 (g_f n x1 r10) fun r12 r13=>if r13=true then some (.inr (r10,r12,true)) else some (.inl ()) else some (.inl ()))<|el (fun (_:Unit)=>bd (app ([]:List UInt8) x3) fun x14=>bd (app ([]:List e_) x2) fun x15=>some (x14,x15,false)) some
def h_i (x1:e_) (x2:Int):Option Bool :=
 some (decide<|x1.end_≤x2)
def h_j (x1:List e_) (x2c0:Int):Option (List e_) :=
 bd (C_ (σ:=List e_) (ρ:=List e_) (fun k12=>(fun x10=>bd (idx x1 (k12:Int)) fun x11=>bd (h_i x11 x2c0) fun r13=>bd (α:=List e_) (if r13=true then bd (psh x10 x11) fun x14=>some x14 else some x10)<|fun x15=>some<|.next x15)) x1.length 0 ([]:List e_)) (el (fun x10=>some x10)<|fun r16=>some r16)
def f_p (x1:List e_) (x2:Int):Option (List e_) :=
 bd (h_j x1 x2) fun r10=>some r10
def f_q (x1:List e_) (x2:Str):Option Int :=
 bd (C_ (σ:=Unit) (ρ:=Int) (fun k10=>(fun (_:Unit)=>bd (idx x1 (k10:Int)) fun x11=>if (x11.path.b==x2.b)=true then some (.ret (k10:Int)) else some (.next ()))) x1.length 0 ()) (el (fun (_:Unit)=>some (-1))<|fun r12=>some r12)
def e_l (x1:List e_) (x2:Int):Option (List e_) :=
 bd (app ([]:List e_) x1) fun x15=>bd (C_ (σ:=List e_) (ρ:=List e_) (fun k10=>(fun x11=>bd (idx x11 (k10:Int)) fun x16=>bd (idx x11 (k10:Int)) fun x12=>bd (upd x11 (k10:Int) (⟨x12.path,x12.rule,j_ x16.start x2,x12.end_⟩:e_)) fun x13=>bd (idx x13 (k10:Int)) fun x17=>bd (idx x13 (k10:Int)) fun x14=>bd (upd x13 (k10:Int) (⟨x14.path,x14.rule,x14.start,j_ x17.end_ x2⟩:e_)) fun x18=>some<|.next x18)) x15.length 0 x15)<|el (fun x11=>some x11)<|fun r19=>some r19
def e_m (x1:List e_) (x2:List e_):Option Bool :=
 if ((x1.length:Int) != (x2.length:Int))=true then some false else bd (C_ (σ:=Unit) (ρ:=Bool) (fun k10=>(fun (_:Unit)=>bd (idx x1 (k10:Int)) fun x11=>bd (idx x2 (k10:Int)) fun x12=>if (!decide ((x11:e_)=(x12:e_)))=true then some (.ret false) else some (.next ()))) x1.length 0 ()) (el (fun (_:Unit)=>some true)<|fun r13=>some r13)
def e_n (x1:List e_) (x2:List e_):Option Int :=
 bd (C_ (σ:=e_→Bool) (ρ:=Int) (fun k13=>(fun x11=>bd (idx x1 (k13:Int)) fun x14=>some<|.next<|b_b x11 (x14:e_) true)) x1.length 0<|fun (_:e_)=>false) (el (fun x11=>bd (C_ (σ:=e_→Bool) (ρ:=Int) (fun k15=>(fun x12=>bd (idx x2 (k15:Int)) fun x16=>some<|.next<|b_b x12 (x16:e_) false)) x2.length 0 x11) (el (fun x12=>bd (C_ (σ:=Int) (ρ:=Int) (fun k17=>(fun x10=>bd (idx x1 (k17:Int)) fun x18=>bd (α:=Int) (if (!(x12 (x18:e_)))=true then some (j_ x10 1) else some x10)<|fun x19=>some<|.next x19)) x1.length 0 0)<|el (fun x10=>some x10)<|fun r1a=>some r1a)<|fun r1b=>some r1b))<|fun r1c=>some r1c)
def f_r (n:Nat) (x1:List UInt8):Option Bool :=
 bd (g_k x1) fun r1c=>if r1c=true then some true else bd6 (f_n n x1) fun r16 r10 r13 r11 r17 r18=>bd3 (f_o n r16 r10 r13 r11 r17 r18) fun r19 r12 r14=>bd2 (f_I r13 r11 r17 r18) fun r1a r1d=>bd2 (e_B n r16 r1a) fun r1e r1f=>bd (α:=Bool) (if r1d=true then some (r14 != r1f) else some (r14 != false)) (fun x1g=>if x1g=true then some false else if (!r14)=true then bd (α:=Bool) (bd (d_Y r19 r13) fun r1h=>if r1h=true then bd (f_m r12 r10) fun r1i=>some r1i else some false) (fun x1j=>some x1j) else bd (f_p r10 r11) fun r15=>bd (C_ (σ:=Unit) (ρ:=Bool) (fun k1b=>(fun (_:Unit)=>bd (α:=Bool) (bd (idx r15 (k1b:Int)) fun x1k=>if (decide<|r11<x1k.end_)=true then some true else bd (idx r15 (k1b:Int)) fun x1l=>bd (f_q r10 x1l.path) fun r1m=>some<|decide<|r1m<0) (fun x1n=>if x1n=true then some (.ret false) else some (.next ())))) r15.length 0 ()) (el (fun (_:Unit)=>bd (e_l r10 5) fun r1o=>bd (e_l r1o (-5)) fun r1p=>bd (α:=Bool) (bd (d_Y r19 r1a) fun r1q=>if r1q=true then bd (e_m r12 r1e) fun r1r=>if r1r=true then bd (e_m r1p r10) fun r1s=>if r1s=true then bd (e_n r10 r10) fun r1t=>if (r1t==(r10.length:Int))=true then bd (e_n r12 r10) fun r1u=>some (decide<|r1u≤(r12.length:Int)) else some false else some false else some false else some false)<|fun x1v=>some x1v)<|fun r1w=>some r1w))
end Go.Vw
namespace Go.Vw
open Go.RowKit Dat
theorem l_D {P:Program} {o:Oper} {a:Act} {w:World} {K K' K1 K2:Act→World→Prop} {Q:Exit→Act→World→Prop} (h : ∀ a w,K a w→K' a w) (hh:o.wp P a w K (Exit.then K1 Q)):o.wp P a w K' (Exit.then K2 Q):=by
 unfold Oper.wp at *
 generalize (execOp a.eval o).run P w=r at *
 cases r with
 | ok n w' =>
  cases n <;> simp only [Oper.upon] at hh ⊢ <;>
   first
    | exact h _ _ hh
    | exact Calls.mono hh (fun e w'' he=>by cases e <;> first | exact h _ _ he | exact he)
    | exact Rows.mono hh<|fun _ _ he=>h _ _ he
 | halt x w'=>cases x <;> simp only [Oper.upon] at hh ⊢ <;> exact hh
theorem h_u {P:Program} {ops:Array Oper} {K K1:Act→World→Prop} {Q:Exit→Act→World→Prop} {l2:List Oper} (hk : ∀ a w,K1 a w→wpList P ops (Exit.then K Q) l2 a w) : ∀ (l1:List Oper) (a:Act) (w:World),wpList P ops (Exit.then K1 Q) l1 a w→wpList P ops (Exit.then K Q) (l1++l2) a w
 | [],a,w,h=>hk a w h
 | o::l1,a,w,h=>by
  rw [List.cons_append]
  unfold wpList at h ⊢
  split at h
  ·rename_i hw
   rw [if_pos hw]
   rcases h with h | ⟨h1,h2⟩
   ·exact .inl<|l_D (h_u hk l1) h
   ·exact .inr ⟨h1,h2⟩
  ·rename_i hw
   rw [if_neg hw]
   exact h_u hk l1 _ _ h
section
variable {P:Program} {N:Nat} {ops:Array Oper} {K:Act→World→Prop} {Q:Exit→Act→World→Prop} {e:Env} {w:World} {l:List Oper}
theorem l_E (k:Nat) (l:List Oper):l.take k++l.drop k=l:=List.take_append_drop k l
theorem c_C (d:Nat) (u:Bool) (k:Nat) (h1:WL P N ops (fun a w'=>w'=w∧Sat N ((d,vB u)::e) a) Q (l.take k) e w) (h2:WL P N ops K Q (l.drop k) ((d,vB u)::e) w):WL P N ops K Q l e w:=fun a ha=>by
 rw [← l_E k l]
 exact h_u (fun a w' ⟨hw,hs⟩=>by subst hw;exact h2 a hs) _ a w<|h1 a ha
variable {d:Nat} {u c:Bool}
def h_v (n:Nat) (e:Env):Bool:=(e.take n).all fun p=>(e.drop n).all fun q=>!Nat.beq p.1 q.1
theorem j_w : ∀ {e:Env} {t:Nat},(∀ q∈e,Nat.beq t q.1=false)→s_ e t=none
 | [],_,_=>rfl
 | (k,v)::e,t,h=>by
  have h1:=h (k,v) List.mem_cons_self;have h2:Nat.beq k t=false:=by rw [← Bool.not_eq_true,Nat.beq_eq] at *;exact fun h=>h1 h.symm
  rw [s_,h2]
  exact j_w fun q hq=>h q<|List.mem_cons_of_mem _ hq
theorem j_x : ∀ {e1 e2:Env} {t:Nat},(∀ p∈e1,Nat.beq p.1 t=false)→s_ (e1++e2) t=s_ e2 t
 | [],_,_,_=>rfl
 | (k,v)::e1,e2,t,h=>by
  rw [List.cons_append,s_,h (k,v) List.mem_cons_self]
  exact j_x fun p hp=>h p<|List.mem_cons_of_mem _ hp
theorem l_F {n:Nat} {e:Env} (h:h_v n e=true) {t:Nat} {v:Value} (hl:s_ (e.drop n) t=some v):s_ e t=some v:=by
 have:s_ (e.take n++e.drop n) t=s_ (e.drop n) t:=by
  refine j_x fun p hp=>?_
  cases hb:Nat.beq p.1 t with
  | false=>rfl
  | true =>
   exfalso
   have hpt:p.1=t:=Nat.eq_of_beq_eq_true hb;have h1:=List.all_eq_true.1 h p hp
   rw [List.all_eq_true] at h1
   have:=j_w (e:=e.drop n) (t:=t) fun q hq=>by
    have:=h1 q hq
    rw [Bool.not_eq_true'] at this
    rw [← hpt];exact this
   rw [this] at hl;cases hl
 rw [List.take_append_drop] at this
 rw [this];exact hl
theorem l_G (n:Nat) {e':Env} {a:Act} (hu:c=u) (h0:s_ e' d=some (vB c)) (hf:h_v n e'=true) (he:e'.drop n=e) (ha:Sat N e' a):Sat N ((d,vB u)::e) a:=by
 subst hu;subst he;refine ⟨ha.defers,ha.size,fun t v ht=>?_⟩
 simp only [s_] at ht
 by_cases hk:d=t
 ·subst hk;have hb:Nat.beq d d=true:=by simp
  rw [hb] at ht
  simp only [cond_true,Option.some.injEq] at ht
  subst ht;exact ha.at_ d _ h0
 ·have hb:Nat.beq d t=false:=by rw [← Bool.not_eq_true,Nat.beq_eq];exact hk
  rw [hb] at ht
  simp only [cond_false] at ht
  exact ha.at_ t v<|l_F hf ht
theorem WLq (n:Nat) {e':Env} (hu:some c=some u) (h0:s_ e' d=some (vB c)) (hf:h_v n e'=true) (he:e'.drop n=e):WL P N ops (fun a w'=>w'=w∧Sat N ((d,vB u)::e) a) Q [] e' w :=
 e_G fun _ ha=>⟨rfl,l_G n (Option.some.inj hu) h0 hf he ha⟩
end
end Go.Vw
universe u
namespace Go.Vw
open Go.RowKit Dat
section
variable {P:Program} {N:Nat} {ops:Array Oper} {K:Act→World→Prop} {Q:Exit→Act→World→Prop} {e:Env} {w:World} {rest:List Oper}
variable {d:Nat} {op:Op} {ty:TypeId} {pos:String} {aft:Array Edge} {x:Operand}
theorem Wn {y:Code} {Q':Exit→Act→World→Prop} (h:WC P N y K Q e w):WL P N ops (KC P y K Q) Q' [] e w:=e_G<|WC.of_KC h
theorem Ws {id:Nat} {l:List Oper} {y:Code} (h:WL P N l.toArray (KC P y K Q) Q l e w):WC P N (.seq (.region id l.toArray false) y) K Q e w:=g_g<|g_i h
theorem Wk {y:Code} {Q':Exit→Act→World→Prop} (h:WC P N y K Q e w):WC P N .skip (KC P y K Q) Q' e w:=a_g<|WC.of_KC h
theorem c_z {b:Bool} {o:Option Value} {v:Value} (h:(bif b then o else none)=some v):b=true∧o=some v:=by
 cases b
 ·cases h
 ·exact ⟨rfl,h⟩
theorem Rm {v:Value} (h:(bif Nat.blt d N then ev e x else none)=some v) (k:WL P N ops K Q rest ((d,v)::e) w):WL P N ops K Q (⟨some d,.move x,ty,pos,aft,none⟩::rest) e w:=R (c_z h).1 (f_0 (c_z h).2) k
theorem Ra {v:Value} (h:(bif Nat.blt d N then ev e x else none)=some v) (k:WL P N ops K Q rest ((d,v)::e) w):WL P N ops K Q (⟨some d,.assign x,ty,pos,aft,none⟩::rest) e w:=R (c_z h).1 (f_1 (c_z h).2) k
section
variable {j:Nat} {want b:Bool}
theorem bind_some {o:Option Nat} {v:Value} (h:o.bind (s_ e)=some v) : ∃ gd,o=some gd∧s_ e gd=some v:=by
 cases o with
 | none=>cases h
 | some g=>exact ⟨g,rfl,h⟩
theorem Rh {v:Value} (h:(bif Nat.blt d N then ((ops[j]?).bind (·.dst)).bind (s_ e) else none)=some (.bool b)) (hw:b=want) (hr:Rd noX P N ⟨some d,op,ty,pos,aft,some (j,want)⟩ e w v) (k:WL P N ops K Q rest ((d,v)::e) w):WL P N ops K Q (⟨some d,op,ty,pos,aft,some (j,want)⟩::rest) e w:=by
 obtain ⟨gd,h1,h2⟩:=bind_some (c_z h).2;exact Rg h1 h2 hw (c_z h).1 hr k
theorem Nh (h:(bif Nat.blt d N then ((ops[j]?).bind (·.dst)).bind (s_ e) else none)=some (.bool b)) (hw:b = !want) (k:WL P N ops K Q rest ((d,undef)::e) w):WL P N ops K Q (⟨some d,op,ty,pos,aft,some (j,want)⟩::rest) e w:=by
 obtain ⟨gd,h1,h2⟩:=bind_some (c_z h).2;exact Ng h1 h2 hw (c_z h).1 k
theorem Nv (h:(bif Nat.blt d N then ((ops[j]?).bind (·.dst)).bind (s_ e) else none)=some undef) (k:WL P N ops K Q rest ((d,undef)::e) w):WL P N ops K Q (⟨some d,op,ty,pos,aft,some (j,want)⟩::rest) e w:=by
 obtain ⟨gd,h1,h2⟩:=bind_some (c_z h).2;exact Nu h1 h2 (c_z h).1 k
end
end
theorem goF {P:Program} {f:FuncId} {fn0:Func} {c:Code} {N:Nat} {args:List Value} {w:World} {R:Value→World→Prop} (hf:P.funcs[f]? = some fn0) (hb:fn0.body=some c) (hN:fn0.ntmps=N) (hle:args.length≤N) (h : ∀ fn:Func,fn.results=fn0.results→WC P N c (L_ P fn R) (QR P fn R) (e_3 0 args) w):o_ P f args w R:=m_v hf hb hN hle<|h fn0 rfl
abbrev _root_.Go.World.z (w:World):Nat:=w.heap.size
abbrev sl (a:Option Addr) (n c:Nat):Value:=.slice a n c
abbrev pt (g:Nat):Value:=.pointer<|some ⟨g,0,none⟩
abbrev Bw (a b:World):Prop:=Below a.heap.size a b
abbrev vR (x:g_) (a1:Option Addr) (n1 c1:Nat) (a2:Option Addr) (n2 c2:Nat) (a3:Option Addr) (n3 c3:Nat) (a4:Option Addr) (n4 c4:Nat):List Value:=[x.name.v,vI x.kind,vI x.size,vB x.little,.slice a1 n1 c1,.slice a2 n2 c2,.slice a3 n3 c3,.slice a4 n4 c4]
theorem z {α:Sort u} {a:α}:a=a:=rfl
theorem Sat.k {N:Nat} {e e':Env} {a:Act} (h:Sat N e a) (hs:sub e e'):Sat N e' a:=h.weaken hs
theorem fid {a:Prop} (h:a):a:=h
theorem lt_ {a b c:Nat} (h:a≤b) (h':b≤c):a≤c:=Nat.le_trans h h'
theorem lr {a:Nat}:a≤a:=Nat.le_refl a
theorem lb {a b:Nat} (h:Nat.ble a b=true):a≤b:=Nat.le_of_ble_eq_true h
theorem ii {x:Int} (h:(decide (-9223372036854775808≤x) && decide (x≤9223372036854775807))=true):inI x:=inI_of x h
section
variable {S T A M:List Nat} {m n g k:Nat}
theorem j_o (h:m≤n) : ∀ k∈[n],m≤k:=b_ h
theorem mno (h : ∀ k∈T,k<m) (h':m≤n) : ∀ k∈[n],k∉T:=b_<|fun ht=>absurd (h n ht)<|Nat.not_lt.2 h'
theorem mnr (h : ∀ k∈T,k<m) : ∀ k∈[m],k∉T:=mno h lr
theorem mm1 (h:g<m) (h':m≤n) : ∀ k∈[n],k∉[g]:=mno (b_ h) h'
theorem mmr (h:g<m) : ∀ k∈[m],k∉[g]:=mno (b_ h) lr
theorem mor (h:m≤n) : ∀ k∈[n],k∈M∨m≤k:=b_<|.inr h
theorem l_ (hs : ∀ k∈S,n≤k) (h:m≤n) : ∀ k∈S,m≤k:=or0 hs<|b_7 h
theorem k_ (hs : ∀ k∈S,n≤k) (h:g<m) (h':m≤n) : ∀ k∈S,k∉[g]:=or0 hs<|P_ (b_ h) h'
theorem a_H (hs : ∀ k∈S,n≤k) (h : ∀ k∈T,k<m) (h':m≤n) : ∀ k∈S,k∉T:=or0 hs<|P_ h h'
theorem a_2 (hs : ∀ k∈S,k∈A∨n≤k) (ha : ∀ k∈A,m≤k) (h:m≤n) : ∀ k∈S,m≤k:=or1 hs ha<|b_7 h
theorem e_o (hs : ∀ k∈S,k∈A∨n≤k) (ha : ∀ k∈A,k∉T) (h : ∀ k∈T,k<m) (h':m≤n) : ∀ k∈S,k∉T:=or1 hs ha<|P_ h h'
theorem djs (h : ∀ k∈S,k∉[g]):g∉S:=fun hg=>h g hg<|List.mem_singleton.2 rfl
theorem atp {p:Nat→Prop} (h : ∀ k∈[g],p k):p g:=h g<|List.mem_singleton.2 rfl
theorem nd0:([]++[]:List Nat).Nodup:=g_p H_ H_ d_v
theorem al0 {p:Nat→Prop} : ∀ k∈([]++[]:List Nat),p k:=g_o d_v d_v
end
section
variable {e e':Env} {v1 v2 v3 v4 v5 v6 v7 v8 v9:Value} {k1 k2 k3 k4 k5 k6 k7 k8 k9:Nat}
theorem s1 (h1:s_ e k1=some v1):sub e [(k1,v1)]:=⟨h1,trivial⟩
theorem s2 (h1:s_ e k1=some v1) (h2:s_ e k2=some v2):sub e [(k1,v1),(k2,v2)]:=⟨h1,s1 h2⟩
theorem s3 (h1:s_ e k1=some v1) (h2:s_ e k2=some v2) (h3:s_ e k3=some v3):sub e [(k1,v1),(k2,v2),(k3,v3)]:=⟨h1,s2 h2 h3⟩
theorem s4 (h1:s_ e k1=some v1) (h2:s_ e k2=some v2) (h3:s_ e k3=some v3) (h4:s_ e k4=some v4):sub e [(k1,v1),(k2,v2),(k3,v3),(k4,v4)]:=⟨h1,s3 h2 h3 h4⟩
theorem s5 (h1:s_ e k1=some v1) (h2:s_ e k2=some v2) (h3:s_ e k3=some v3) (h4:s_ e k4=some v4) (h5:s_ e k5=some v5):sub e [(k1,v1),(k2,v2),(k3,v3),(k4,v4),(k5,v5)]:=⟨h1,s4 h2 h3 h4 h5⟩
theorem s6 (h1:s_ e k1=some v1) (h2:s_ e k2=some v2) (h3:s_ e k3=some v3) (h4:s_ e k4=some v4) (h5:s_ e k5=some v5) (h6:s_ e k6=some v6):sub e [(k1,v1),(k2,v2),(k3,v3),(k4,v4),(k5,v5),(k6,v6)]:=⟨h1,s5 h2 h3 h4 h5 h6⟩
theorem s7 (h1:s_ e k1=some v1) (h2:s_ e k2=some v2) (h3:s_ e k3=some v3) (h4:s_ e k4=some v4) (h5:s_ e k5=some v5) (h6:s_ e k6=some v6) (h7:s_ e k7=some v7):sub e [(k1,v1),(k2,v2),(k3,v3),(k4,v4),(k5,v5),(k6,v6),(k7,v7)]:=⟨h1,s6 h2 h3 h4 h5 h6 h7⟩
theorem s8 (h1:s_ e k1=some v1) (h2:s_ e k2=some v2) (h3:s_ e k3=some v3) (h4:s_ e k4=some v4) (h5:s_ e k5=some v5) (h6:s_ e k6=some v6) (h7:s_ e k7=some v7) (h8:s_ e k8=some v8):sub e [(k1,v1),(k2,v2),(k3,v3),(k4,v4),(k5,v5),(k6,v6),(k7,v7),(k8,v8)]:=⟨h1,s7 h2 h3 h4 h5 h6 h7 h8⟩
theorem s9 (h1:s_ e k1=some v1) (h2:s_ e k2=some v2) (h3:s_ e k3=some v3) (h4:s_ e k4=some v4) (h5:s_ e k5=some v5) (h6:s_ e k6=some v6) (h7:s_ e k7=some v7) (h8:s_ e k8=some v8) (h9:s_ e k9=some v9):sub e [(k1,v1),(k2,v2),(k3,v3),(k4,v4),(k5,v5),(k6,v6),(k7,v7),(k8,v8),(k9,v9)]:=⟨h1,s8 h2 h3 h4 h5 h6 h7 h8 h9⟩
end
theorem onL {α:Type} [Dat α] {w:World}:a_ w [] (.slice none 0 0) ([]:List α):=m_0 w
theorem _root_.Go.RowKit.Below.s {b:Nat} {w w':World} (h:Below b w w'):w.heap.size≤w'.heap.size:=h.size
theorem Chg.s {X:Nat→Prop} {w w':World} (h:Chg X w w'):w.heap.size≤w'.heap.size:=h.size
abbrev Chg.e:=@Chg.ext
abbrev repS.e:=@repS.ext
abbrev repS.c:=@repS.chg
abbrev a_.e:=@a_.ext
abbrev a_.c:=@a_.chg
abbrev U_.e:=@U_.ext
abbrev U_.c:=@U_.chg
abbrev a_w.e:=@a_w.ext
abbrev a_w.c:=@a_w.chg
abbrev b_a.e:=@b_a.ext
abbrev b_a.c:=@b_a.chg
abbrev GlW.e:=@GlW.ext
abbrev GlW.c:=@GlW.chg
abbrev a_J.e:=@a_J.ext
abbrev a_J.c:=@a_J.chg
abbrev Blk.e:=@Blk.ext
abbrev Blk.c:=@Blk.chg
abbrev b_p.e:=@b_p.ext
abbrev b_p.c:=@b_p.chg
section
variable {P:Program} {N:Nat} {ops:Array Oper} {K:Act→World→Prop} {Q:Exit→Act→World→Prop} {e:Env} {w:World} {rest:List Oper} {X:Nat→Prop} {T:Nat} {p:a_D}
variable {d d':Nat} {ty ty':TypeId} {pos pos':String} {aft aft':Array Edge} {x x':Operand} {v v':Value}
theorem Rw {c:Code} {Q':Exit→Act→World→Prop} (h:(bif Nat.blt d N then ev e x else none)=some v) (k:WC P N c K Q ((d,v)::e) w):WL P N ops (KC P c K Q) Q' [⟨some d,.assign x,ty,pos,aft,none⟩] e w:=Ra h<|Wn k
theorem Wm {id:Nat} {l:List Oper} {c:Code} (h:(bif Nat.blt d N then ev e x else none)=some v) (k:WL P N (⟨some d,.move x,ty,pos,aft,none⟩::l).toArray (KC P c K Q) Q l ((d,v)::e) w):WC P N (.seq (.region id (⟨some d,.move x,ty,pos,aft,none⟩::l).toArray false) c) K Q e w:=Ws<|Rm h k
theorem RM (h:(bif Nat.blt d N then ev e x else none)=some v) (h':(bif Nat.blt d' N then ev ((d,v)::e) x' else none)=some v') (k:WL P N ops K Q rest ((d',v')::(d,v)::e) w):WL P N ops K Q (⟨some d,.move x,ty,pos,aft,none⟩::⟨some d',.move x',ty',pos',aft',none⟩::rest) e w:=Rm h<|Rm h' k
theorem RA (h:(bif Nat.blt d N then ev e x else none)=some v) (h':(bif Nat.blt d' N then ev ((d,v)::e) x' else none)=some v') (k:WL P N ops K Q rest ((d',v')::(d,v)::e) w):WL P N ops K Q (⟨some d,.assign x,ty,pos,aft,none⟩::⟨some d',.assign x',ty',pos',aft',none⟩::rest) e w:=Ra h<|Ra h' k
theorem dM {i:Nat} (ho:ops[i]? = some ⟨some d,.move x,ty,pos,aft,none⟩) (hf:Nat.blt d N=true) (h:ev e x=some v) (k:PR X P N ops T K p ((d,v)::e) w):PR X P N ops T K (.rd i p) e w:=dR ho hf (f_0 h) k
theorem dQ {i:Nat} (ho:ops[i]? = some ⟨some d,.assign x,ty,pos,aft,none⟩) (hf:Nat.blt d N=true) (h:ev e x=some v) (k:PR X P N ops T K p ((d,v)::e) w):PR X P N ops T K (.rd i p) e w:=dR ho hf (f_1 h) k
theorem Wx {y y':Code} {b:Bool} {Q':Exit→Act→World→Prop} (hc:ev e x=some (.bool b)) (ht:b=true→WC P N y K Q e w) (hf:b=false→WC P N y' K Q e w):WL P N ops (KC P (.cond x y y') K Q) Q' [] e w:=Wn<|g_h hc ht hf
section
variable {t u i:Nat} {k:IntKind} {a b:Int}
theorem Rl (hf:Nat.blt d N=true) (h1:ev e x=some (.int k a)) (h2:ev e x'=some (.int k b)) (h:WL P N ops K Q rest ((d,vB<|decide<|a<b)::e) w):WL P N ops K Q (⟨some d,.binOp .lss t x x' u,ty,pos,aft,none⟩::rest) e w:=R hf (g_Q h1 h2) h
theorem Rq (hf:Nat.blt d N=true) (h1:ev e x=some (.int k a)) (h2:ev e x'=some (.int k b)) (h:WL P N ops K Q rest ((d,vB<|a==b)::e) w):WL P N ops K Q (⟨some d,.binOp .eql t x x' u,ty,pos,aft,none⟩::rest) e w:=R hf (g_P h1 h2) h
theorem Rf {g o j:Nat} (hf:Nat.blt d N=true) (h1:Fld P t i j) (h2:ev e x=some (.pointer<|some ⟨g,o,none⟩)) (h:WL P N ops K Q rest ((d,.pointer<|some ⟨g,o+j,none⟩)::e) w):WL P N ops K Q (⟨some d,.fieldAddr t x i,ty,pos,aft,none⟩::rest) e w:=R hf (g_J h1 h2) h
theorem Re {vs:Array Value} (hf:Nat.blt d N=true) (h1:ev e x=some (.tuple vs)) (h2:vs[i]? = some v) (h:WL P N ops K Q rest ((d,v)::e) w):WL P N ops K Q (⟨some d,.extract x i,ty,pos,aft,none⟩::rest) e w:=R hf (g_M h1 h2) h
end
theorem l0 {t g o:Nat} {dst:Option Tmp} {gd:Option (Nat×Bool)} (hT : ∀ w,(isAgg t).run P w = .ok false w) (h:ev e x=some (.pointer<|some ⟨g,o,none⟩)) (hc:w.cell? ⟨g,o,none⟩=some v):Rd noX P N ⟨dst,.load t x,ty,pos,aft,gd⟩ e w v:=g_K hT h (fun h=>h) hc
def plA:Nat→Nat→List Nat→a_D
 | _,0,_=>.done
 | i,n+1,l=>bif l.elem i then .ef i (plA (i+1) n l) else .rd i (plA (i+1) n l)
abbrev pl_ (n:Nat) (l:List Nat):a_D:=plA 0 n l
end
end Go.Vw
namespace Go.Vw
open Go.RowKit Dat Go.ChangeShapes Go.WideShapes Go.ChangeAt
structure IsT (P:Program) (t:TypeId) (α:Type) [Dat α] (L:α→Prop):Prop where
 rd : ∀ {H:Type} (enc:TypeId×Value→H) (W:World) (fuel:Nat) (cs:List Value) (x:DataW H×List MemPlace),DataW.trod enc P W 0 (fun _=>true) true fuel t cs=some x→(x.1.weights P t).all (· ≤ reachBytes)=true → ∃ v:α,rep W W.heap.size cs v∧L v
section
variable {P:Program} {t:TypeId}
theorem m_n (ht:P.underlying t=some (.int .u8)):IsT P t UInt8 (fun _=>True):=⟨fun enc W fuel cs x h _=>by
 obtain ⟨n,rfl,_,hw⟩:=DataW.trod_int ht h;have hb:=bounds_u8 hw
 have e:n=byteI (UInt8.ofNat n.toNat):=by
  unfold byteI
  rw [UInt8.toNat_ofNat']
  omega
 refine ⟨UInt8.ofNat n.toNat,⟨_,rfl,?_⟩,trivial⟩
 show Value.int .u8 n=vU (byteI<|UInt8.ofNat n.toNat)
 rw [← e]⟩
theorem j_W {H:Type} {e:TypeId} : ∀ {l:List (DataW H)} {d:DataW H},(DataW.weightsAll P e l).all (· ≤ reachBytes)=true→d∈l→(d.weights P e).all (· ≤ reachBytes)=true
 | [],_,_,h=>by cases h
 | y::l,d,hw,h=>by
  unfold DataW.weightsAll at hw
  rw [List.all_append,Bool.and_eq_true] at hw
  rcases List.mem_cons.1 h with rfl | h
  ·exact hw.1
  ·exact j_W hw.2 h
theorem j_X {H:Type} : ∀ {ts:List TypeId} {l:List (DataW H)} {i:Nat} {t:TypeId} {d:DataW H},(DataW.weightsEach P ts l).all (· ≤ reachBytes)=true→ts[i]? = some t→l[i]? = some d→(d.weights P t).all (· ≤ reachBytes)=true
 | [],_,_,_,_,_,h,_=>by simp at h
 | _::_,[],_,_,_,_,_,h=>by simp at h
 | t::ts,y::l,i,t',d,hw,h1,h2=>by
  unfold DataW.weightsEach at hw
  rw [List.all_append,Bool.and_eq_true] at hw
  cases i with
  | zero=>simp at h1 h2;subst h1 h2;exact hw.1
  | succ i=>simp at h1 h2;exact j_X hw.2 h1 h2
theorem cells?_spec {w:World} {a:Addr} {n:Nat} {cs:List Value} (h:w.cells? 0 a n=some cs):cs.length=n ∧ ∀ j v,cs[j]? = some v→w.cell? (a.add j)=some v:=by
 unfold World.cells? at h
 rw [if_pos (Nat.zero_le _)] at h
 refine ⟨by simpa using mapM_some_length h,fun j v hv=>?_⟩
 have hj:j<n:=by
  have h1:=(List.getElem?_eq_some_iff.1 hv).1;have h2:=mapM_some_length h
  simp at h2
  omega
 have:=mapM_some_get h j j (by rw [List.getElem?_range hj])
 rw [this];exact hv
theorem m_o {w:World} {a:Addr} {v:Value} (h:w.cell? a=some v):a.spot=none:=by
 unfold World.cell? at h
 split at h
 ·cases hs:a.spot with
  | none=>rfl
  | some x=>rw [hs] at h;simp at h
 ·cases h
theorem j_Y {α:Type} (Q:Nat→α→Prop) : ∀ (len:Nat),(∀ i,i<len → ∃ v,Q i v) → ∃ l:List α,l.length=len ∧ ∀ (i:Nat) (x:α),l[i]? = some x→Q i x
 | 0,_=>⟨[],rfl,fun i x h=>by simp at h⟩
 | n+1,h=>by
  obtain ⟨l,hl,hq⟩:=j_Y Q n<|fun i hi=>h i (by omega);obtain ⟨v,hv⟩:=h n (by omega);refine ⟨l++[v],by simp [hl],fun i x hx=>?_⟩
  by_cases hi:i<l.length
  ·rw [List.getElem?_append_left hi] at hx;exact hq i x hx
  ·rw [List.getElem?_append_right (by omega)] at hx
   have h1:=(List.getElem?_eq_some_iff.1 hx).1
   simp only [List.length_cons,List.length_nil] at h1
   have h2:i=n:=by omega
   subst h2
   rw [show i - l.length=0 by omega] at hx
   simp at hx
   exact hx ▸ hv
theorem m_p {α:Type} [Dat α] {L:α→Prop} {e:TypeId} (ht:P.underlying t=some (.slice e)) (he:IsT P e α L) (hc:P.cellsOf e=sz α) (hb:1≤P.bytesOf e):IsT P t (List α) (fun l=>l.length≤LEN ∧ ∀ x∈l,L x):=⟨fun enc W fuel cs x h hw=>by
 have hr:reachBytes=140737488351232:=rfl;have hL:LEN=140737488355328:=rfl
 rcases DataW.trod_slice ht h with ⟨rfl,rfl⟩ | ⟨a,len,cap,elems,rest,n,_,rfl,rfl,_,hlc,_,hlen,hel,hsp,_⟩
 ·exact ⟨[],⟨_,rfl,none,0,rfl,Nat.le_refl _,Nat.zero_le _,fun _=>rfl,fun p hp=>by cases hp⟩,by simp,fun x hx=>by cases hx⟩
 ·obtain ⟨hrl,_⟩:=hsp rfl
  have hw':(elems.length+rest.length) * P.bytesOf e≤reachBytes∧(DataW.weightsAll P e<|elems.map (·.1)).all (· ≤ reachBytes)=true:=by
   unfold DataW.weights at hw
   rw [ht] at hw
   simp only [List.all_cons,List.all_append,Bool.and_eq_true,decide_eq_true_eq,List.length_map] at hw
   exact ⟨hw.1,hw.2.1⟩
  have hcap:cap≤LEN:=by
   have h1:elems.length+rest.length≤(elems.length+rest.length) * P.bytesOf e:=Nat.le_mul_of_pos_right _ hb
   omega
  have hone : ∀ i:Nat,i<len → ∃ v:α,a.spot=none∧a.block<W.heap.size∧(∃ cs,U_ W a.block (a.off+i * sz α) cs∧rep W W.heap.size cs v)∧L v:=by
   intro i hi;have h1:=hel i hi;have hie:i<elems.length:=by omega
   rw [List.getElem?_eq_getElem hie] at h1
   cases hcs:W.cells? 0 (a.add<|i * P.cellsOf e) (P.cellsOf e) with
   | none=>rw [hcs] at h1;cases h1
   | some cs =>
    rw [hcs] at h1
    simp only [Option.bind_some] at h1
    obtain ⟨v,hv,hl⟩:=he.rd enc W n cs _ h1<|j_W hw'.2<|List.mem_map_of_mem<|List.getElem_mem hie;obtain ⟨c1,c2⟩:=cells?_spec hcs;have hpos:0<cs.length:=by rw [c1,hc];exact Dat.pos
    have hsp:a.spot=none:=by
     have h0:=hel 0 (by omega)
     rw [List.getElem?_eq_getElem (show 0<elems.length by omega)] at h0
     cases hcs0:W.cells? 0 (a.add<|0 * P.cellsOf e) (P.cellsOf e) with
     | none=>rw [hcs0] at h0;cases h0
     | some cs0 =>
      obtain ⟨d1,d2⟩:=cells?_spec hcs0;have hpos0:0<cs0.length:=by rw [d1,hc];exact Dat.pos
      have:=d2 0 cs0[0] (by rw [List.getElem?_eq_getElem hpos0]);have:=m_o this
      simpa [Addr.add] using this
    have ha:a=⟨a.block,a.off,none⟩:=by cases a;simp only at hsp;rw [hsp]
    have hcells:U_ W a.block (a.off+i * sz α) cs:=by
     intro j u hu;have:=c2 j u hu
     rw [ha,Addr.add_lit,Addr.add_lit,hc] at this
     exact this
    exact ⟨v,hsp,hcells.lt (by intro h;rw [h] at hpos;cases hpos),⟨cs,hcells,hv⟩,hl⟩
  obtain ⟨l,hll,hq⟩:=j_Y _ len hone;refine ⟨l,⟨_,rfl,some a,cap,by rw [hll],by omega,by omega,fun h=>(by cases h),fun p hp=>?_⟩,by omega,fun x hx=>?_⟩
  ·obtain rfl:=Option.some.inj hp;refine ⟨fun hne=>?_,fun hne=>?_,fun i x hx=>(hq i x hx).2.2.1⟩
   ·cases l with
    | nil=>exact absurd rfl hne
    | cons y l=>exact (hq 0 y rfl).1
   ·cases l with
    | nil=>exact absurd rfl hne
    | cons y l=>exact (hq 0 y rfl).2.1
  ·obtain ⟨i,hi⟩:=List.getElem?_of_mem hx
   exact (hq i x hi).2.2.2⟩
structure OkW (P:Program) (W:World) (base:Nat) (t:TypeId) (v:Value):Prop where
 h:Value.okWide P W .any base t v
structure OkWs (P:Program) (W:World) (base:Nat) (ts:Array TypeId) (vs:Array Value):Prop where
 h : ∀ (j:Nat) t v,ts[j]? = some t→vs[j]? = some v→Value.okWide P W .any base t v
theorem OkWs.at {W:World} {base:Nat} {ts:Array TypeId} {vs:Array Value} (h:OkWs P W base ts vs) (j:Nat) (t:TypeId) (v:Value) (h1:ts[j]? = some t) (h2:vs[j]? = some v):OkW P W base t v:=⟨h.h j t v h1 h2⟩
theorem m_q {W:World} {base:Nat} {t:TypeId} {v:Value} {e:TypeId} (ht:P.underlying t=some (.slice e)) (h:OkW P W base t v) : ∃ a n c,v = .slice a n c:=okWide_slice ht h.h
theorem j_Z {H:Type} {enc:TypeId×Value→H} (hl:laidOutB P=true) {W W':World} (hb:Below W.heap.size W W') : ∀ (ts:List TypeId) (vs:List Value) (ds:List (DataW H)) (ps:List MemPlace),(∀ t∈ts,P.readableRec t=true∧t<P.types.size) →
  DataW.TrodAll enc P W 0 (fun _=>true) true ts vs ds ps→(∀ x∈ps,x.block<W.heap.size) → ∀ (sp:Nat→Bool),(∀ b,b<W.heap.size→sp b=true)→DataW.TrodAll enc P W' 0 sp true ts vs ds ps
 | [],[],[],_,_,h,_,_,_=>h
 | t::ts,v::vs,d::ds,ps,hr,h,hlt,sp,hsp=>by
  obtain ⟨p,q,h1,h2,rfl⟩:=h;refine ⟨p,q,?_,j_Z hl hb ts vs ds q (fun t ht=>hr t<|List.mem_cons_of_mem _ ht) h2 (fun x hx=>hlt x<|List.mem_append_right _ hx) sp hsp,rfl⟩;have hlp : ∀ x∈p,x.block<W.heap.size:=fun x hx=>hlt x<|List.mem_append_left _ hx
  exact WideElems.Trod_stays hl (hr t List.mem_cons_self).1 (hr t List.mem_cons_self).2 h1 (fun x hx=>hb.same<|hlp x hx) (fun x hx=>hsp _<|hlp x hx)
 | [],_::_,_,_,_,h,_,_,_=>by cases h
 | [],[],_::_,_,_,h,_,_,_=>by cases h
 | _::_,[],_,_,_,h,_,_,_=>by cases h
 | _::_,_::_,[],_,_,h,_,_,_=>by cases h
theorem m_r {H:Type} {enc:TypeId×Value→H} {f:Func} {s:ChangeSpec} {apart fresh handsOn again:Bool} {W W':World} {args:Array Value} {ds gs:List (DataW H)} {before:List MemPlace} {tb:TypeId} (hl:laidOutB P=true) (hread : ∀ t∈f.params.toList,P.readableRec t=true∧t<P.types.size)
  (hb:Below W.heap.size W W') (hW:DataW.Whole enc P f.params.toList s.vars apart W args.toList ds gs before) (hres:f.resultTypes = #[tb]) (htb:P.underlying tb=some .bool) (hvars:s.vars=[]) (hfn:s.fn H (ds++gs)={ results:=[.lit (.bool true)],args:=ds }) :
  s.post enc P f apart fresh handsOn again W args (.bool true) W':=by
 have hlt : ∀ x∈before,x.block<W.heap.size:=fun p hp=>hW.lt p hp
 have hW':=hW;obtain ⟨p,q,hA,hV,rfl,hz,hn⟩:=hW
 rw [hvars] at hV
 obtain ⟨rfl,rfl⟩:=trodVars_none hV;have hA':=fun sp hsp=>j_Z hl hb _ _ _ _ hread hA (fun x hx=>hlt x (by simpa using hx)) sp hsp
 have hr : ∀ (b:Nat) (sp:Nat→Bool) (hd:Bool),DataW.TrodAll enc P W' b sp hd f.resultTypes.toList ((Value.bool true).resultList f.resultTypes.size) (s.fn H<|ds++[]).results []:=fun b sp hd=>by
  rw [hfn,hres];exact trodAll_cons_mk (shut_bool htb _) trodAll_mk0
 have hvs : ∀ sp:Nat→Bool,DataW.TrodVars enc P W' sp s.vars (s.fn H<|ds++[]).vars []:=fun sp=>by rw [hfn,hvars];rfl
 refine ⟨ds,[],p++[],[],p,[],hW',hr _ _ _,by rw [hfn];exact hA' _ (fun b hb=>by simpa using hb),hvs _,hb.frame _,fun _=>⟨?_,([.lit (.bool true)]:List (DataW H))++ds,[],([]++p)++[],⟨[]++p,[],?_,?_,rfl,?_,?_⟩,?_⟩⟩
 ·exact ok_one hres rfl<|okWide_bool_mk htb _
 ·have h1:=hr 0 (fun _=>true) true
  rw [hfn] at h1
  exact trodAll_append (hA' _<|fun _ _=>rfl) h1
 ·rw [hvars];rfl
 ·intro b off hp;have hp':MemPlace.cell b off∈p++[]:=by simpa using hp
  have:=hlt _ hp'
  rw [hb.frozen (p:=⟨b,off,none⟩) this]
  exact hz b off hp'
 ·intro ha;have:=hn ha;simpa using this
 ·intro x hx _;simpa using hx
end
end Go.Vw
namespace Go.Vw
open Go.RowKit Dat
theorem o_K {x y:Int} (h1 : -9223372036854775808≤x+y) (h2:x+y≤9223372036854775807):j_ x y=x+y:=by
 unfold j_;rw [IntKind.wrap_i64];omega
theorem a_C {x y:Int} (h1 : -9223372036854775808≤x - y) (h2:x - y≤9223372036854775807):I_ x y=x - y:=by
 unfold I_;rw [IntKind.wrap_i64];omega
theorem d_K {x y:Int} (h1 : -9223372036854775808≤x * y) (h2:x * y≤9223372036854775807):a_e x y=x * y:=by
 unfold a_e;rw [IntKind.wrap_i64];omega
theorem l_c {x y:Int} (h0:0≤x) (hx:x≤9223372036854775807) (hy:0<y):b_F x y=x / y:=by
 unfold b_F
 rw [Int.tdiv_eq_ediv_of_nonneg h0,IntKind.wrap_i64]
 have h1:=Int.ediv_nonneg h0<|Int.le_of_lt hy;have h2:=Int.ediv_le_self y h0
 omega
theorem h_a {x y:Int} (h0:0≤x):a_W x y=x % y:=by
 unfold a_W;exact Int.tmod_eq_emod_of_nonneg h0
theorem o_L {a b:UInt8}:byteI a=byteI b ↔ a=b:=by
 unfold byteI
 constructor
 ·intro h;have:a.toNat=b.toNat:=by omega
  exact UInt8.toNat_inj.1 this
 ·rintro rfl;rfl
section
variable {α:Type}
theorem j_k {l:List α} {k:Nat} (h:k<l.length):idx l (k:Int)=some l[k]:=by rw [l_T];simp [h]
theorem d_e {l:List α} {i:Int} (h0:0≤i) (h:i.toNat<l.length):idx l i=some l[i.toNat]:=by
 unfold idx;rw [if_pos h0];simp [h]
theorem b_6 {l:List α} (h:0<l.length):idx l 0=some l[0]:=j_k (k:=0) h
theorem f_g {l:List α} (h:1<l.length):idx l 1=some l[1]:=j_k (k:=1) h
theorem j_l {l:List α} {a b:Int} (h0:0≤a) (h1:a≤b) (h2:b≤l.length):slc l a b=some ((l.take b.toNat).drop a.toNat):=by
 unfold slc;rw [if_pos ⟨h0,h1,h2⟩]
theorem a_P {l:List α} {x:α} (h:l.length<LIM):psh l x=some (l++[x]):=by unfold psh;rw [if_pos h]
theorem c_h {l m:List α} (h:l.length+m.length≤LIM):app l m=some (l++m):=by unfold app;rw [if_pos h]
theorem d_L {s t:Str} (h:s.b.length+t.b.length≤LIM):cat s t=some ⟨s.b++t.b⟩:=by unfold cat;rw [if_pos h]
theorem h_b {l:List α} {k:Nat} {x:α} (h:k<l.length):upd l (k:Int) x=some (l.set k x):=by
 unfold upd;rw [if_pos ⟨by omega,by omega⟩];rfl
theorem l_d {z:α} {n:Int} (h0:0≤n) (h:n≤LIM):mk0 z n=some (List.replicate n.toNat z):=by
 unfold mk0;rw [if_pos ⟨h0,h⟩]
end
section
variable {σ ρ:Type}
theorem l_e {body:Nat→σ→Option (Out σ ρ)} (st:Nat→σ) : ∀ n k,(∀ j,k≤j→j<k+n→body j (st j)=some (.next<|st<|j+1))→C_ body n k (st k)=some (.inl<|st<|k+n)
 | 0,k,_=>rfl
 | n+1,k,h=>by
  have h1:=h k (Nat.le_refl _) (by omega);have h2:=l_e st n (k+1)<|fun j a b=>h j (by omega) (by omega);unfold C_
  rw [h1]
  simp only
  rw [h2,show k+1+n=k+(n+1) by omega]
theorem c_i {body:Nat→σ→Option (Out σ ρ)} (st:Nat→σ) {n:Nat} (h : ∀ j,j<n→body j (st j)=some (.next<|st<|j+1)):C_ body n 0 (st 0)=some (.inl<|st n):=by
 have:=l_e st n 0<|fun j _ b=>h j (by omega)
 simpa using this
theorem forN_ret' {body:Nat→σ→Option (Out σ ρ)} (st:Nat→σ) {r:ρ} : ∀ n k j0,k≤j0→j0<k+n→(∀ j,k≤j→j<j0→body j (st j)=some (.next<|st<|j+1))→body j0 (st j0)=some (.ret r)→C_ body n k (st k)=some (.inr r)
 | 0,k,j0,a,b,_,_=>by omega
 | n+1,k,j0,a,b,h,hr=>by
  unfold C_
  by_cases hk:k=j0
  ·subst hk;rw [hr]
  ·rw [h k (Nat.le_refl _) (by omega)]
   exact forN_ret' st n (k+1) j0 (by omega) (by omega) (fun j c d=>h j (by omega) d) hr
theorem j_m {body:Nat→σ→Option (Out σ ρ)} (st:Nat→σ) {r:ρ} {n j0:Nat} (h0:j0<n) (h : ∀ j,j<j0→body j (st j)=some (.next<|st<|j+1)) (hr:body j0 (st j0)=some (.ret r)):C_ body n 0 (st 0)=some (.inr r) :=
 forN_ret' st n 0 j0 (by omega) (by omega) (fun j _ b=>h j b) hr
theorem e_j {body:Nat→Unit→Option (Out Unit ρ)} {n:Nat} (p:Nat→Bool) (r:Nat→ρ) (h : ∀ k,k<n→(∀ j,j<k→p j=false)→body k ()=some (if p k=true then .ret (r k) else .next ())) :
  C_ body n 0 ()=some (match (List.range n).find? p with | some k=>.inr (r k) | none=>.inl ()):=by
 cases hf:(List.range n).find? p with
 | none =>
  have hn : ∀ k,k<n→p k=false:=fun k hk=>by
   have:=List.find?_eq_none.1 hf k<|List.mem_range.2 hk
   simpa using this
  exact c_i (fun _=>()) (fun j hj=>by rw [h j hj (fun i hi=>hn i (by omega)),hn j hj];rfl)
 | some k =>
  obtain ⟨hp,as,bs,hl,has⟩:=List.find?_eq_some_iff_append.1 hf
  have hk:as.length<n∧as.length=k:=by
   have h1:as.length<(List.range n).length:=by rw [hl];simp
   simp at h1
   refine ⟨h1,?_⟩;have h2:(List.range n)[as.length]? = some k:=by rw [hl];simp
   rw [List.getElem?_range h1] at h2
   exact Option.some.inj h2
  obtain ⟨h1,rfl⟩:=hk
  have hb : ∀ j,j<as.length→p j=false:=fun j hj=>by
   have h2:(List.range n)[j]? = some (as[j]):=by rw [hl,List.getElem?_append_left hj];simp
   rw [List.getElem?_range (by omega)] at h2
   have h3:=has as[j] (List.getElem_mem hj)
   rw [← Option.some.inj h2] at h3
   simpa using h3
  exact j_m (fun _=>()) h1 (fun j hj=>by rw [h j (by omega) (fun i hi=>hb i (by omega)),hb j hj];rfl) (by rw [h _ h1 hb,if_pos hp])
theorem o_M {α:Type} (l:List α) (p:α→Bool) (q:Nat→Bool) (h : ∀ k (hk:k<l.length),q k=p l[k]):(List.range l.length).any q=l.any p:=by
 rw [Bool.eq_iff_iff]
 simp only [List.any_eq_true,List.mem_range]
 constructor
 ·rintro ⟨k,hk,hq⟩;exact ⟨l[k],List.getElem_mem hk,by rw [← h k hk];exact hq⟩
 ·rintro ⟨x,hx,hp⟩;obtain ⟨k,hk,rfl⟩:=List.getElem_of_mem hx;exact ⟨k,hk,by rw [h k hk];exact hp⟩
theorem d_f {body:Nat→Unit→Option (Out Unit ρ)} {n:Nat} (p:Nat→Bool) (r:ρ) (h : ∀ k,k<n→(∀ j,j<k→p j=false)→body k ()=some (if p k=true then .ret r else .next ())) :
  C_ body n 0 ()=some (if (List.range n).any p=true then .inr r else .inl ()):=by
 rw [e_j p (fun _=>r) h]
 cases hf:(List.range n).find? p with
 | none =>
  have:(List.range n).any p=false:=by
   rw [List.any_eq_false];exact fun x hx=>by simpa using List.find?_eq_none.1 hf x hx
  rw [this];rfl
 | some k =>
  have:(List.range n).any p=true:=List.any_eq_true.2 ⟨k,List.mem_of_find?_eq_some hf,List.find?_some hf⟩
  rw [this];rfl
theorem e_k {α:Type} {body:Nat→Unit→Option (Out Unit ρ)} {l:List α} (p:α→Bool) (r:ρ) (h : ∀ k (hk:k<l.length),body k ()=some (if p l[k]=true then .ret r else .next ())) :
  C_ body l.length 0 ()=some (if l.any p=true then .inr r else .inl ()):=by
 rw [d_f (fun k=>if hk:k<l.length then p l[k] else false) r (fun k hk _=>by rw [dif_pos hk];exact h k hk)]
 rw [o_M l p _ (fun k hk=>by rw [dif_pos hk])]
theorem iter_brk' {step:σ→Option (Out σ ρ)} (st:Nat→σ) {s:σ} : ∀ m k j0,k≤j0→j0<k+m→(∀ j,k≤j→j<j0→step (st j)=some (.next<|st<|j+1))→step (st j0)=some (.brk s)→a_f step m (st k)=some (.inl s)
 | 0,k,j0,a,b,_,_=>by omega
 | m+1,k,j0,a,b,h,hr=>by
  unfold a_f
  by_cases hk:k=j0
  ·subst hk;rw [hr]
  ·rw [h k (Nat.le_refl _) (by omega)]
   exact iter_brk' st m (k+1) j0 (by omega) (by omega) (fun j c d=>h j (by omega) d) hr
theorem o_N {step:σ→Option (Out σ ρ)} (st:Nat→σ) {s:σ} {m j0:Nat} (h0:j0<m) (h : ∀ j,j<j0→step (st j)=some (.next<|st<|j+1)) (hr:step (st j0)=some (.brk s)):a_f step m (st 0)=some (.inl s) :=
 iter_brk' st m 0 j0 (by omega) (by omega) (fun j _ b=>h j b) hr
theorem iter_ret' {step:σ→Option (Out σ ρ)} (st:Nat→σ) {r:ρ} : ∀ m k j0,k≤j0→j0<k+m→(∀ j,k≤j→j<j0→step (st j)=some (.next<|st<|j+1))→step (st j0)=some (.ret r)→a_f step m (st k)=some (.inr r)
 | 0,k,j0,a,b,_,_=>by omega
 | m+1,k,j0,a,b,h,hr=>by
  unfold a_f
  by_cases hk:k=j0
  ·subst hk;rw [hr]
  ·rw [h k (Nat.le_refl _) (by omega)]
   exact iter_ret' st m (k+1) j0 (by omega) (by omega) (fun j c d=>h j (by omega) d) hr
theorem o_O {step:σ→Option (Out σ ρ)} (st:Nat→σ) {r:ρ} {m j0:Nat} (h0:j0<m) (h : ∀ j,j<j0→step (st j)=some (.next<|st<|j+1)) (hr:step (st j0)=some (.ret r)):a_f step m (st 0)=some (.inr r) :=
 iter_ret' st m 0 j0 (by omega) (by omega) (fun j _ b=>h j b) hr
end
theorem l_f {s:Str} {p:Nat} (h:p<s.b.length) (ha:s.b[p].toNat<128):dec s p=((s.b[p].toNat:Int),1):=by
 have hq:p<(⟨s.b.toArray⟩:ByteArray).size:=by simpa [ByteArray.size] using h
 have hb:(⟨s.b.toArray⟩:ByteArray)[p]'hq=s.b[p]:=rfl;unfold dec
 rw [decode_ascii _ p hq (by rw [hb];exact ha),hb]
theorem o_P {s:Str} {p:Nat} (h:p<s.b.length) (ha:128≤s.b[p].toNat):128≤(dec s p).1:=by
 have hq:p<(⟨s.b.toArray⟩:ByteArray).size:=by simpa [ByteArray.size] using h
 have hb:(⟨s.b.toArray⟩:ByteArray)[p]'hq=s.b[p]:=rfl;unfold dec;have:=(decode_high _ p hq (by rw [hb];exact ha)).1
 simp only
 omega
abbrev bF_:=@Bool.false_eq_true
abbrev dT_:=@decide_eq_true
abbrev dF_:=@decide_eq_false
abbrev bQ_:=@beq_self_eq_true
abbrev mT_:=@List.mem_cons_of_mem
abbrev mS_:=@List.mem_cons_self
abbrev gE_:=@List.getElem_mem
abbrev oI_:=@Option.some.injEq
abbrev gG_:=@List.getElem?_eq_getElem
abbrev gD_:=@List.getD_eq_getElem?_getD
abbrev aE_:=@Bool.and_eq_true
abbrev dE_:=@decide_eq_true_eq
abbrev tN_:=@Int.toNat_natCast
abbrev gS_:=@List.getElem?_eq_some_iff
abbrev iP_:=@if_pos
abbrev iN_:=@if_neg
abbrev fF_:=@if_false
abbrev fT_:=@if_true
abbrev gN_:=@List.getElem?_eq_none
abbrev nT_:=@Bool.not_true
abbrev ix_:=@j_k
abbrev ia_:=@o_K
abbrev lC_:=@List.length_cons
abbrev bN_:=@bne_self_eq_false
abbrev dC_:=@List.drop_eq_getElem_cons
end Go.Vw
