
import Derived.Test.YtajhmimbhplkfaaGreatDoorVwP2
set_option linter.unusedVariables false
namespace Go.Vw
open Go.RowKit Dat
abbrev zV:Val:=⟨0,([]:List UInt8),([]:List Val)⟩
theorem a_B:LIM=4294967296:=rfl
theorem MXv:MX=1048576:=rfl
def b_8 (b:List UInt8) (p q:Nat):List UInt8:=(b.take q).drop p
theorem d_F {b:List UInt8} {p q:Nat} (h1:p≤q) (h2:q≤b.length):slc b (p:Int) (q:Int)=some (b_8 b p q):=by
 rw [j_l (by omega) (by omega) (by omega)];rfl
theorem d_a {b:List UInt8} {p q:Nat} (h2:q≤b.length):(b_8 b p q).length=q - p:=by
 unfold b_8;simp;omega
def a_7 (b:List UInt8) (r:g_) (at_:Nat):Option Int:=if (b.length:Int) - at_<r.size then none else some (d_8 (b_8 b at_<|at_+r.size.toNat) r.little)
def e_f (r:g_):Prop:=r.kind=1∧1≤r.size∧r.size≤4
theorem b_R {b:List UInt8} {r:g_} {at_:Nat} {n:Int} (hr:e_f r) (h:a_7 b r at_=some n):0≤n∧n<4294967296∧at_+r.size.toNat≤b.length:=by
 unfold a_7 at h
 split at h
 ·cases h
 ·obtain ⟨_,h1,h4⟩:=hr
  cases Option.some.inj h
  have:=n_R (b_8 b at_<|at_+r.size.toNat) r.little (by rw [d_a (by omega)];omega);exact ⟨this.1,this.2,by omega⟩
section
variable {d:d_} {b:List UInt8} {r:g_} {k:Int} {at_:Nat}
theorem h_1 (hk:idx d.rules k=some r) (hr:e_f r) (hb:b.length≤MX) (ha:at_≤b.length) :
  c_9 d k b at_=some (match a_7 b r at_ with | none=>(0,(at_:Int),false) | some n=>(n,((at_+r.size.toNat:Nat):Int),true)):=by
 have hMX:=MXv;obtain ⟨_,h1,h4⟩:=hr;unfold c_9 a_7
 rw [hk,bd_some,a_C (x:=(b.length:Int)) (by omega) (by omega),ia_ (x:=(at_:Int)) (by omega) (by omega)]
 by_cases h:(b.length:Int) - at_<r.size
 ·rw [dT_ h,iP_ rfl,iP_ h]
 ·rw [dF_ h,iN_ (by simp),iN_ h,show (at_:Int)+r.size=((at_+r.size.toNat:Nat):Int) by omega,d_F (by omega) (by omega),bd_some,n_S _ _ (by rw [d_a (by omega)];omega)]
  rfl
theorem h_2 {n:Int} (hb:b.length≤MX) (ha:at_≤b.length) (h0:0≤n) (hn:n<4294967296) :
  d_k ⟨d,b⟩ at_ n=some (if (b.length:Int) - at_<n then ([],some ((at_:Int),1)) else (b_8 b at_<|at_+n.toNat,none)):=by
 have hMX:=MXv;unfold d_k b_v
 simp only
 rw [a_C (x:=(b.length:Int)) (by omega) (by omega),ia_ (x:=(at_:Int)) (by omega) (by omega)]
 by_cases h:(b.length:Int) - at_<n
 ·rw [dT_ h,iP_ rfl,iP_ h];rfl
 ·rw [dF_ h,iN_ (by simp),iN_ h,show (at_:Int)+n=((at_+n.toNat:Nat):Int) by omega,d_F (by omega) (by omega)];rfl
theorem h_3 (hk:idx d.rules k=some r) (hr:e_f r) (hb:b.length≤MX) (ha:at_≤b.length) :
  d_l ⟨d,b⟩ k at_=some (match a_7 b r at_ with | none=>(0,(at_:Int),some ((at_:Int),1)) | some n=>(n,((at_+r.size.toNat:Nat):Int),none)):=by
 have hMX:=MXv;obtain ⟨_,h1,h4⟩:=hr;unfold d_l a_7
 simp only
 rw [hk,bd_some,h_2 hb ha (by omega) (by omega)]
 by_cases h:(b.length:Int) - at_<r.size
 ·rw [iP_ h,iP_ h];rfl
 ·rw [iN_ h,iN_ h]
  simp only [bd2_some]
  rw [k_A _ _ (by rw [d_a (by omega)];omega),ia_ (by omega) (by omega),show (at_:Int)+r.size=((at_+r.size.toNat:Nat):Int) by omega]
  rfl
theorem f_6 {ap n:Int} (hb:b.length≤MX) (ha:at_≤b.length) (h0:0≤n) (hn:n<4294967296) :
  c_Q ⟨d,b,ap⟩ at_ n=some (if (b.length:Int) - at_<n then ⟨(at_:Int),1⟩ else ⟨((at_+n.toNat:Nat):Int),0⟩):=by
 have hMX:=MXv;unfold c_Q
 simp only
 rw [a_C (x:=(b.length:Int)) (by omega) (by omega),ia_ (x:=(at_:Int)) (by omega) (by omega)]
 by_cases h:(b.length:Int) - at_<n
 ·rw [dT_ h,iP_ rfl,iP_ h]
 ·rw [dF_ h,iN_ (by simp),iN_ h,show (at_:Int)+n=((at_+n.toNat:Nat):Int) by omega]
theorem h_4 {ap:Int} (hk:idx d.rules k=some r) (hr:e_f r) (hb:b.length≤MX) (ha:at_≤b.length) :
  d_j ⟨d,b,ap⟩ k at_=some (match a_7 b r at_ with | none=>(0,⟨(at_:Int),1⟩,j_ ap 1) | some n=>(n,⟨((at_+r.size.toNat:Nat):Int),0⟩,j_ ap 1)):=by
 have hMX:=MXv;obtain ⟨_,h1,h4⟩:=hr;unfold d_j a_7
 simp only
 rw [hk,bd_some,f_6 hb ha (by omega) (by omega)]
 by_cases h:(b.length:Int) - at_<r.size
 ·rw [iP_ h,iP_ h];rfl
 ·rw [iN_ h,iN_ h]
  simp only [bd_some]
  rw [d_F (by omega) (by omega),bd_some,k_A _ _ (by rw [d_a (by omega)];omega)]
  rfl
def a_S (b bs:List UInt8) (at_ k:Nat):Bool:=match b[at_+k]? with
 | none=>true
 | some c=>byteI c != byteI (bs.getD k 0)
def a_X (b bs:List UInt8) (at_:Nat):Nat×Int:=match (List.range bs.length).find? (a_S b bs at_) with
 | none=>(at_+bs.length,0)
 | some k=>if b.length≤at_+k then (at_,1) else (at_+k,2)
theorem n_X (hb:b.length≤MX) (ha:at_≤b.length) (hr:r.bytes.length≤MX):f_A r b at_=some (zV,((a_X b r.bytes at_).1:Int),(a_X b r.bytes at_).2):=by
 have hMX:=MXv;unfold f_A a_X
 rw [e_j (a_S b r.bytes at_) (fun k=>if b.length≤at_+k then (zV,(at_:Int),(1:Int)) else (zV,((at_+k:Nat):Int),2))]
 ·rw [ia_ (x:=(at_:Int)) (by omega) (by omega)]
  cases (List.range r.bytes.length).find? (a_S b r.bytes at_) with
  | none=>simp only [bd_some,el_inl];congr 3
  | some k =>
   simp only [bd_some,el_inr]
   split <;> rfl
 ·intro k hk _
  rw [ia_ (x:=(at_:Int)) (by omega) (by omega),show (at_:Int)+k=((at_+k:Nat):Int) by omega,ix_ hk]
  by_cases h:at_+k<b.length
  ·rw [dF_ (by omega),ix_ h,show a_S b r.bytes at_ k=(byteI b[at_+k] != byteI r.bytes[k]) by unfold a_S;rw [gG_ h,a_v hk]]
   rw [iN_ (show ¬ b.length≤at_+k by omega)]
   simp only [bd_some,bF_,fF_]
   exact c_u _ _
  ·rw [dT_ (by omega),show a_S b r.bytes at_ k=true by unfold a_S;rw [gN_ (by omega)]]
   rw [iP_ (show b.length≤at_+k by omega)]
   rfl
theorem n_Y (hb:b.length≤MX) (ha:at_≤b.length) (hr:r.bytes.length≤MX):f_Z ⟨d,b⟩ r at_=some (if (a_X b r.bytes at_).2=0 then (((a_X b r.bytes at_).1:Int),none) else ((at_:Int),some (((a_X b r.bytes at_).1:Int),(a_X b r.bytes at_).2))):=by
 have hMX:=MXv;unfold f_Z a_X b_v
 simp only
 rw [e_j (a_S b r.bytes at_) (fun k=>if b.length≤at_+k then ((at_:Int),some ((at_:Int),(1:Int))) else ((at_:Int),some (((at_+k:Nat):Int),2)))]
 ·rw [ia_ (x:=(at_:Int)) (by omega) (by omega)]
  cases (List.range r.bytes.length).find? (a_S b r.bytes at_) with
  | none=>rfl
  | some k =>
   simp only [bd_some,el_inr]
   by_cases h:b.length≤at_+k
   ·rw [iP_ h,iP_ h];rfl
   ·rw [iN_ h,iN_ h];rfl
 ·intro k hk _
  rw [ia_ (x:=(at_:Int)) (by omega) (by omega),show (at_:Int)+k=((at_+k:Nat):Int) by omega,ix_ hk]
  by_cases h:at_+k<b.length
  ·rw [bd_some,dF_ (by omega),ix_ h,show a_S b r.bytes at_ k=(byteI b[at_+k] != byteI r.bytes[k]) by unfold a_S;rw [gG_ h,a_v hk]]
   rw [iN_ (show ¬ b.length≤at_+k by omega)]
   simp only [bd_some,bF_,fF_]
   exact c_u _ _
  ·rw [bd_some,dT_ (by omega),show a_S b r.bytes at_ k=true by unfold a_S;rw [gN_ (by omega)]]
   rw [iP_ (show b.length≤at_+k by omega)]
   rfl
theorem n_Z {ap:Int} (hb:b.length≤MX) (ha:at_≤b.length) (hr:r.bytes.length≤MX):f_R ⟨d,b,ap⟩ r at_=some ⟨((a_X b r.bytes at_).1:Int),(a_X b r.bytes at_).2⟩:=by
 have hMX:=MXv;unfold f_R a_X
 simp only
 rw [e_j (a_S b r.bytes at_) (fun k=>if b.length≤at_+k then (⟨(at_:Int),1⟩:T_) else ⟨((at_+k:Nat):Int),2⟩)]
 ·rw [ia_ (x:=(at_:Int)) (by omega) (by omega)]
  cases (List.range r.bytes.length).find? (a_S b r.bytes at_) with
  | none=>rfl
  | some k =>
   simp only [bd_some,el_inr]
   by_cases h:b.length≤at_+k
   ·rw [iP_ h,iP_ h]
   ·rw [iN_ h,iN_ h]
 ·intro k hk hbef
  have hle:at_+k≤b.length:=by
   cases k with
   | zero=>omega
   | succ k =>
    have:=hbef k (by omega);unfold a_S at this
    by_cases h:at_+k<b.length
    ·omega
    ·rw [gN_ (by omega)] at this;cases this
  rw [ia_ (x:=(at_:Int)) (by omega) (by omega),show (at_:Int)+k=((at_+k:Nat):Int) by omega,ix_ hk]
  by_cases h:at_+k<b.length
  ·rw [bd_some,show (((at_+k:Nat):Int)==(b.length:Int))=false by simp;omega,ix_ h,show a_S b r.bytes at_ k=(byteI b[at_+k] != byteI r.bytes[k]) by unfold a_S;rw [gG_ h,a_v hk]]
   rw [iN_ (show ¬ b.length≤at_+k by omega)]
   simp only [bd_some,bF_,fF_]
   exact c_u _ _
  ·rw [bd_some,show (((at_+k:Nat):Int)==(b.length:Int))=true by simp;omega,show a_S b r.bytes at_ k=true by unfold a_S;rw [gN_ (by omega)]]
   rw [iP_ (show b.length≤at_+k by omega)]
   rfl
theorem o_0 (ha:at_≤b.length) (bs:List UInt8):at_≤(a_X b bs at_).1∧(a_X b bs at_).1≤b.length:=by
 unfold a_X
 cases hf:(List.range bs.length).find? (a_S b bs at_) with
 | none =>
  simp only
  refine ⟨by omega,?_⟩
  cases hl:bs.length with
  | zero=>omega
  | succ m =>
   have:=List.find?_eq_none.1 hf m<|List.mem_range.2 (by omega);unfold a_S at this
   by_cases h:at_+m<b.length
   ·omega
   ·rw [gN_ (by omega)] at this;simp at this
 | some k =>
  simp only
  split
  ·exact ⟨Nat.le_refl _,ha⟩
  ·exact ⟨by omega,by omega⟩
theorem o_1 {bs:List UInt8} (h:(a_X b bs at_).2=0):(a_X b bs at_).1=at_+bs.length:=by
 unfold a_X at *
 cases hf:(List.range bs.length).find? (a_S b bs at_) with
 | none=>rfl
 | some k =>
  rw [hf] at h
  simp only at h
  split at h <;> cases h
def a_G (b:List UInt8) (at_:Nat) (n:Int):Val×Nat×Int:=if (b.length:Int) - at_<n then (zV,at_,1) else (⟨0,b_8 b at_<|at_+n.toNat,[]⟩,at_+n.toNat,0)
theorem k_G {n:Int} (hb:b.length≤MX) (ha:at_≤b.length) (h0:0≤n) (hn:n<4294967296):e_r b at_ n=some ((a_G b at_ n).1,((a_G b at_ n).2.1:Int),(a_G b at_ n).2.2):=by
 have hMX:=MXv;unfold e_r a_G
 rw [a_C (x:=(b.length:Int)) (by omega) (by omega),ia_ (x:=(at_:Int)) (by omega) (by omega)]
 by_cases h:(b.length:Int) - at_<n
 ·rw [dT_ h,iP_ rfl,iP_ h]
 ·rw [dF_ h,iN_ (by simp),iN_ h,show (at_:Int)+n=((at_+n.toNat:Nat):Int) by omega,d_F (by omega) (by omega),bd_some,c_h (by rw [d_a (by omega)];simp [a_B];omega)]
  simp
theorem k_H {n:Int} (hb:b.length≤MX) (ha:at_≤b.length) (h0:0≤n) (hn:n<4294967296):e_A ⟨d,b⟩ at_ n=some (if (a_G b at_ n).2.2=0 then ((a_G b at_ n).1,((a_G b at_ n).2.1:Int),none) else (zV,(at_:Int),some (((a_G b at_ n).2.1:Int),(a_G b at_ n).2.2))):=by
 have hMX:=MXv;unfold e_A a_G
 rw [h_2 hb ha h0 hn]
 by_cases h:(b.length:Int) - at_<n
 ·rw [iP_ h,iP_ h];rfl
 ·rw [iN_ h,iN_ h]
  simp only [bd2_some]
  rw [c_h (by rw [d_a (by omega)];simp [a_B];omega),ia_ (x:=(at_:Int)) (by omega) (by omega),show (at_:Int)+n=((at_+n.toNat:Nat):Int) by omega]
  rfl
end
def a_Y (ts:List Int) (n:Int):Option Nat:=(List.range ts.length).find? (fun k=>ts.getD k 0==n)
def Y_ (r:g_) (num:Int) (i:Nat):Int :=
 if r.kind==5 then r.kids.getD 1 0
 else if r.kind==6 then (if i<r.kids.length then r.kids.getD i 0 else -1)
 else if r.kind==7 then (match a_Y r.tags num with | some k=>r.kids.getD (k+1) 0 | none=>-1)
 else if r.kind==8 then r.kids.getD 0 0
 else if r.kind==9 then r.kids.getD 0 0
 else -1
structure f_7 (r:g_):Prop where
 arr:r.kind=5→r.kids.length=2
 cho:r.kind=7→r.kids.length=r.tags.length+1
 opt:r.kind=8→r.kids.length=1
 chk:r.kind=9→r.kids.length=1
theorem o_2 {r:g_} {num:Int} (h:r.kids.length=r.tags.length+1):C_ (σ:=Unit) (ρ:=Int) (fun k440=>(fun (_:Unit)=>bd (idx r.tags ((k440:Nat):Int)) fun x479=>if (x479==num)=true then bd (idx r.kids ((k440+1:Nat):Int)) fun x508=>some (.ret x508) else some (.next ()))) r.tags.length 0 ()=some (match a_Y r.tags num with | some k=>.inr (r.kids.getD (k+1) 0) | none=>.inl ()):=by
 unfold a_Y
 rw [e_j (fun k=>r.tags.getD k 0==num) (fun k=>r.kids.getD (k+1) 0)]
 ·cases (List.range r.tags.length).find? (fun k=>r.tags.getD k 0==num) <;> rfl
 ·intro k hk _
  rw [ix_ hk,bd_some,a_v hk,ix_ (show k+1<r.kids.length by omega),bd_some,a_v (show k+1<r.kids.length by omega)]
  by_cases h:r.tags[k]=num
  ·rw [show (r.tags[k]==num)=true by simpa using h];rfl
  ·rw [show (r.tags[k]==num)=false by simpa using h];rfl
theorem d_G {r:g_} (h:f_7 r) (num:Int) (i:Nat):b_u r num i=some (Y_ r num i):=by
 unfold b_u Y_
 by_cases h5:r.kind=5
 ·rw [h5];simp only [bQ_,fT_]
  rw [f_g (by have:=h.arr h5;omega),a_v (by have:=h.arr h5;omega)];rfl
 ·rw [show (r.kind==5)=false by simpa using h5]
  simp only [bF_,fF_]
  by_cases h6:r.kind=6
  ·rw [h6];simp only [bQ_,fT_]
   by_cases hi:i<r.kids.length
   ·rw [dT_ (by omega),ix_ hi,a_v hi,iP_ rfl,iP_ hi];rfl
   ·rw [dF_ (by omega),iN_ (by simp),iN_ hi];rfl
  ·rw [show (r.kind==6)=false by simpa using h6]
   simp only [bF_,fF_]
   by_cases h7:r.kind=7
   ·rw [h7];simp only [bQ_,fT_]
    rw [o_2 (h.cho h7)]
    cases a_Y r.tags num <;> rfl
   ·rw [show (r.kind==7)=false by simpa using h7]
    simp only [bF_,fF_]
    by_cases h8:r.kind=8
    ·rw [h8];simp only [bQ_,fT_,bd_some]
     rw [b_6 (by have:=h.opt h8;omega),a_v (by have:=h.opt h8;omega)];rfl
    ·rw [show (r.kind==8)=false by simpa using h8]
     simp only [bF_,fF_]
     by_cases h9:r.kind=9
     ·rw [h9];simp only [bQ_,fT_,bd_some]
      rw [b_6 (by have:=h.chk h9;omega),a_v (by have:=h.chk h9;omega)];rfl
     ·rw [show (r.kind==9)=false by simpa using h9];rfl
theorem o_3 {d:d_} {k:Int} {r:g_} (hk:idx d.rules k=some r) (h:f_7 r) (v:Val) (i:Nat):d_V d k v i=some (Y_ r v.number i):=by
 rw [← d_G h v.number i]
 unfold d_V b_u
 rw [hk];rfl
end Go.Vw
