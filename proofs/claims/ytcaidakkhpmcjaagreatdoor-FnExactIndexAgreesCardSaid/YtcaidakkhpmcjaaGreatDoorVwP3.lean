
import Derived.Test.YtcaidakkhpmcjaaGreatDoorVwP2
namespace Go.Vw
open Go.RowKit Dat
abbrev zV:Val:=⟨0,([]:List UInt8),([]:List Val)⟩
theorem b_b:LIM=4294967296:=rfl
theorem MXv:MX=1048576:=rfl
def a_5 (b:List UInt8)(p q:Nat):List UInt8:=(b.take q).drop p
theorem c_k {b:List UInt8}{p q:Nat}(h1:p<=q)(h2:q<=b.length):slc b (p:Int) (q:Int)=some (a_5 b p q):=by
 rw [g_L (by omega) (by omega) (by omega)];rfl
theorem c_l {b:List UInt8}{p q:Nat}(h2:q<=b.length):(a_5 b p q).length=q - p:=by
 unfold a_5;simp;omega
def U_ (b:List UInt8)(r:e_)(at_:Nat):Option Int:=if (b.length:Int) - at_<r.size then none else some (d_r (a_5 b at_<|at_+r.size.toNat) r.little)
def d_t (r:e_):Prop:=r.kind=1/\1<=r.size/\r.size<=4
theorem b_v {b:List UInt8}{r:e_}{at_:Nat}{n:Int}(hr:d_t r)(h:U_ b r at_=some n):0<=n/\n<4294967296/\at_+r.size.toNat<=b.length:=by
 unfold U_ at h
 split at h
 ·cases h
 ·obtain ⟨_,h1,h4⟩:=hr
  cases Option.some.inj h
  have:=q_P (a_5 b at_<|at_+r.size.toNat) r.little (by rw [c_l (by omega)];omega);exact ⟨this.1,this.2,by omega⟩
section
variable {d:b_}{b:List UInt8}{r:e_}{k:Int}{at_:Nat}
theorem f_o (hk:idx d.rules k=some r)(hr:d_t r)(hb:b.length<=MX)(ha:at_<=b.length) :
  c_a d k b at_=some (match U_ b r at_ with | none=>(0,(at_:Int),false) | some n=>(n,((at_+r.size.toNat:Nat):Int),true)):=by
 have hMX:=MXv;obtain ⟨_,h1,h4⟩:=hr;unfold c_a U_
 rw [hk,bd_some,b_e (x:=(b.length:Int)) (by omega) (by omega),ia_ (x:=(at_:Int)) (by omega) (by omega)]
 by_cases h:(b.length:Int) - at_<r.size
 ·rw [dT_ h,iP_ rfl,iP_ h]
 ·rw [dF_ h,iN_ (by simp),iN_ h,show (at_:Int)+r.size=((at_+r.size.toNat:Nat):Int) by omega,c_k (by omega) (by omega),bd_some,q_Q _ _ (by rw [c_l (by omega)];omega)]
  rfl
theorem i_V {n:Int}(hb:b.length<=MX)(ha:at_<=b.length)(G:0<=n)(hn:n<4294967296) :
  e_e ⟨d,b⟩ at_ n=some (if (b.length:Int) - at_<n then ([],some ((at_:Int),1)) else (a_5 b at_<|at_+n.toNat,none)):=by
 have hMX:=MXv;unfold e_e b_K
 simp only
 rw [b_e (x:=(b.length:Int)) (by omega) (by omega),ia_ (x:=(at_:Int)) (by omega) (by omega)]
 by_cases h:(b.length:Int) - at_<n
 ·rw [dT_ h,iP_ rfl,iP_ h];rfl
 ·rw [dF_ h,iN_ (by simp),iN_ h,show (at_:Int)+n=((at_+n.toNat:Nat):Int) by omega,c_k (by omega) (by omega)];rfl
theorem i_W (hk:idx d.rules k=some r)(hr:d_t r)(hb:b.length<=MX)(ha:at_<=b.length) :
  e_f ⟨d,b⟩ k at_=some (match U_ b r at_ with | none=>(0,(at_:Int),some ((at_:Int),1)) | some n=>(n,((at_+r.size.toNat:Nat):Int),none)):=by
 have hMX:=MXv;obtain ⟨_,h1,h4⟩:=hr;unfold e_f U_
 simp only
 rw [hk,bd_some,i_V hb ha (by omega) (by omega)]
 by_cases h:(b.length:Int) - at_<r.size
 ·rw [iP_ h,iP_ h];rfl
 ·rw [iN_ h,iN_ h]
  simp only [bd2_some]
  rw [k_H _ _ (by rw [c_l (by omega)];omega),ia_ (by omega) (by omega),show (at_:Int)+r.size=((at_+r.size.toNat:Nat):Int) by omega]
  rfl
theorem g_C {ap n:Int}(hb:b.length<=MX)(ha:at_<=b.length)(G:0<=n)(hn:n<4294967296) :
  d_B ⟨d,b,ap⟩ at_ n=some (if (b.length:Int) - at_<n then ⟨(at_:Int),1⟩ else ⟨((at_+n.toNat:Nat):Int),0⟩):=by
 have hMX:=MXv;unfold d_B
 simp only
 rw [b_e (x:=(b.length:Int)) (by omega) (by omega),ia_ (x:=(at_:Int)) (by omega) (by omega)]
 by_cases h:(b.length:Int) - at_<n
 ·rw [dT_ h,iP_ rfl,iP_ h]
 ·rw [dF_ h,iN_ (by simp),iN_ h,show (at_:Int)+n=((at_+n.toNat:Nat):Int) by omega]
theorem i_X {ap:Int}(hk:idx d.rules k=some r)(hr:d_t r)(hb:b.length<=MX)(ha:at_<=b.length) :
  e_d ⟨d,b,ap⟩ k at_=some (match U_ b r at_ with | none=>(0,⟨(at_:Int),1⟩,j_ ap 1) | some n=>(n,⟨((at_+r.size.toNat:Nat):Int),0⟩,j_ ap 1)):=by
 have hMX:=MXv;obtain ⟨_,h1,h4⟩:=hr;unfold e_d U_
 simp only
 rw [hk,bd_some,g_C hb ha (by omega) (by omega)]
 by_cases h:(b.length:Int) - at_<r.size
 ·rw [iP_ h,iP_ h];rfl
 ·rw [iN_ h,iN_ h]
  simp only [bd_some]
  rw [c_k (by omega) (by omega),bd_some,k_H _ _ (by rw [c_l (by omega)];omega)]
  rfl
def a_W (b bs:List UInt8)(at_ k:Nat):Bool:=match b[at_+k]? with
 | none=>true
 | some c=>byteI c != byteI (bs.getD k 0)
def b_4 (b bs:List UInt8)(at_:Nat):Nat×Int:=match (List.range bs.length).find? (a_W b bs at_) with
 | none=>(at_+bs.length,0)
 | some k=>if b.length<=at_+k then (at_,1) else (at_+k,2)
theorem r_6 (hb:b.length<=MX)(ha:at_<=b.length)(hr:r.bytes.length<=MX):h_5 r b at_=some (zV,((b_4 b r.bytes at_).1:Int),(b_4 b r.bytes at_).2):=by
 have hMX:=MXv;unfold h_5 b_4
 rw [f_u (a_W b r.bytes at_) (fun k=>if b.length<=at_+k then (zV,(at_:Int),(1:Int)) else (zV,((at_+k:Nat):Int),2))]
 ·rw [ia_ (x:=(at_:Int)) (by omega) (by omega)]
  cases (List.range r.bytes.length).find? (a_W b r.bytes at_) with
  | none=>simp only [bd_some,el_inl];congr 3
  | some k =>
   simp only [bd_some,el_inr]
   split <;> rfl
 ·intro k hk _
  rw [ia_ (x:=(at_:Int)) (by omega) (by omega),show (at_:Int)+k=((at_+k:Nat):Int) by omega,ix_ hk]
  by_cases h:at_+k<b.length
  ·rw [dF_ (by omega),ix_ h,show a_W b r.bytes at_ k=(byteI b[at_+k] != byteI r.bytes[k]) by unfold a_W;rw [gG_ h,a_7 hk]]
   rw [iN_ (show ¬b.length<=at_+k by omega)]
   simp only [bd_some,bF_,fF_]
   exact d_1 _ _
  ·rw [dT_ (by omega),show a_W b r.bytes at_ k=true by unfold a_W;rw [gN_ (by omega)]]
   rw [iP_ (show b.length<=at_+k by omega)]
   rfl
theorem r_7 (hb:b.length<=MX)(ha:at_<=b.length)(hr:r.bytes.length<=MX):h_t ⟨d,b⟩ r at_=some (if (b_4 b r.bytes at_).2=0 then (((b_4 b r.bytes at_).1:Int),none) else ((at_:Int),some (((b_4 b r.bytes at_).1:Int),(b_4 b r.bytes at_).2))):=by
 have hMX:=MXv;unfold h_t b_4 b_K
 simp only
 rw [f_u (a_W b r.bytes at_) (fun k=>if b.length<=at_+k then ((at_:Int),some ((at_:Int),(1:Int))) else ((at_:Int),some (((at_+k:Nat):Int),2)))]
 ·rw [ia_ (x:=(at_:Int)) (by omega) (by omega)]
  cases (List.range r.bytes.length).find? (a_W b r.bytes at_) with
  | none=>rfl
  | some k =>
   simp only [bd_some,el_inr]
   by_cases h:b.length<=at_+k
   ·rw [iP_ h,iP_ h];rfl
   ·rw [iN_ h,iN_ h];rfl
 ·intro k hk _
  rw [ia_ (x:=(at_:Int)) (by omega) (by omega),show (at_:Int)+k=((at_+k:Nat):Int) by omega,ix_ hk]
  by_cases h:at_+k<b.length
  ·rw [bd_some,dF_ (by omega),ix_ h,show a_W b r.bytes at_ k=(byteI b[at_+k] != byteI r.bytes[k]) by unfold a_W;rw [gG_ h,a_7 hk]]
   rw [iN_ (show ¬b.length<=at_+k by omega)]
   simp only [bd_some,bF_,fF_]
   exact d_1 _ _
  ·rw [bd_some,dT_ (by omega),show a_W b r.bytes at_ k=true by unfold a_W;rw [gN_ (by omega)]]
   rw [iP_ (show b.length<=at_+k by omega)]
   rfl
theorem r_8 {ap:Int}(hb:b.length<=MX)(ha:at_<=b.length)(hr:r.bytes.length<=MX):h_j ⟨d,b,ap⟩ r at_=some ⟨((b_4 b r.bytes at_).1:Int),(b_4 b r.bytes at_).2⟩:=by
 have hMX:=MXv;unfold h_j b_4
 simp only
 rw [f_u (a_W b r.bytes at_) (fun k=>if b.length<=at_+k then (⟨(at_:Int),1⟩:X_) else ⟨((at_+k:Nat):Int),2⟩)]
 ·rw [ia_ (x:=(at_:Int)) (by omega) (by omega)]
  cases (List.range r.bytes.length).find? (a_W b r.bytes at_) with
  | none=>rfl
  | some k =>
   simp only [bd_some,el_inr]
   by_cases h:b.length<=at_+k
   ·rw [iP_ h,iP_ h]
   ·rw [iN_ h,iN_ h]
 ·intro k hk hbef
  have hle:at_+k<=b.length:=by
   cases k with
   | zero=>omega
   | succ k =>
    have:=hbef k (by omega);unfold a_W at this
    by_cases h:at_+k<b.length
    ·omega
    ·rw [gN_ (by omega)] at this;cases this
  rw [ia_ (x:=(at_:Int)) (by omega) (by omega),show (at_:Int)+k=((at_+k:Nat):Int) by omega,ix_ hk]
  by_cases h:at_+k<b.length
  ·rw [bd_some,show (((at_+k:Nat):Int)==(b.length:Int))=false by simp;omega,ix_ h,show a_W b r.bytes at_ k=(byteI b[at_+k] != byteI r.bytes[k]) by unfold a_W;rw [gG_ h,a_7 hk]]
   rw [iN_ (show ¬b.length<=at_+k by omega)]
   simp only [bd_some,bF_,fF_]
   exact d_1 _ _
  ·rw [bd_some,show (((at_+k:Nat):Int)==(b.length:Int))=true by simp;omega,show a_W b r.bytes at_ k=true by unfold a_W;rw [gN_ (by omega)]]
   rw [iP_ (show b.length<=at_+k by omega)]
   rfl
theorem r_9 (ha:at_<=b.length)(bs:List UInt8):at_<=(b_4 b bs at_).1/\(b_4 b bs at_).1<=b.length:=by
 unfold b_4
 cases hf:(List.range bs.length).find? (a_W b bs at_) with
 | none =>
  simp only
  refine ⟨by omega,?_⟩
  cases hl:bs.length with
  | zero=>omega
  | succ m =>
   have:=List.find?_eq_none.1 hf m<|List.mem_range.2 (by omega);unfold a_W at this
   by_cases h:at_+m<b.length
   ·omega
   ·rw [gN_ (by omega)] at this;simp at this
 | some k =>
  simp only
  split
  ·exact ⟨Nat.le_refl _,ha⟩
  ·exact ⟨by omega,by omega⟩
theorem r_a {bs:List UInt8}(h:(b_4 b bs at_).2=0):(b_4 b bs at_).1=at_+bs.length:=by
 unfold b_4 at *
 cases hf:(List.range bs.length).find? (a_W b bs at_) with
 | none=>rfl
 | some k =>
  rw [hf] at h
  simp only at h
  split at h <;> cases h
def a_u (b:List UInt8)(at_:Nat)(n:Int):Val×Nat×Int:=if (b.length:Int) - at_<n then (zV,at_,1) else (⟨0,a_5 b at_<|at_+n.toNat,[]⟩,at_+n.toNat,0)
theorem n_2 {n:Int}(hb:b.length<=MX)(ha:at_<=b.length)(G:0<=n)(hn:n<4294967296):f_B b at_ n=some ((a_u b at_ n).1,((a_u b at_ n).2.1:Int),(a_u b at_ n).2.2):=by
 have hMX:=MXv;unfold f_B a_u
 rw [b_e (x:=(b.length:Int)) (by omega) (by omega),ia_ (x:=(at_:Int)) (by omega) (by omega)]
 by_cases h:(b.length:Int) - at_<n
 ·rw [dT_ h,iP_ rfl,iP_ h]
 ·rw [dF_ h,iN_ (by simp),iN_ h,show (at_:Int)+n=((at_+n.toNat:Nat):Int) by omega,c_k (by omega) (by omega),bd_some,e_E (by rw [c_l (by omega)];simp [b_b];omega)]
  simp
theorem n_3 {n:Int}(hb:b.length<=MX)(ha:at_<=b.length)(G:0<=n)(hn:n<4294967296):f_O ⟨d,b⟩ at_ n=some (if (a_u b at_ n).2.2=0 then ((a_u b at_ n).1,((a_u b at_ n).2.1:Int),none) else (zV,(at_:Int),some (((a_u b at_ n).2.1:Int),(a_u b at_ n).2.2))):=by
 have hMX:=MXv;unfold f_O a_u
 rw [i_V hb ha G hn]
 by_cases h:(b.length:Int) - at_<n
 ·rw [iP_ h,iP_ h];rfl
 ·rw [iN_ h,iN_ h]
  simp only [bd2_some]
  rw [e_E (by rw [c_l (by omega)];simp [b_b];omega),ia_ (x:=(at_:Int)) (by omega) (by omega),show (at_:Int)+n=((at_+n.toNat:Nat):Int) by omega]
  rfl
end
def a_H (ts:List Int)(n:Int):Option Nat:=(List.range ts.length).find? (fun k=>ts.getD k 0==n)
def a_q (r:e_)(num:Int)(i:Nat):Int :=
 if r.kind==5 then r.kids.getD 1 0
 else if r.kind==6 then (if i<r.kids.length then r.kids.getD i 0 else -1)
 else if r.kind==7 then (match a_H r.tags num with | some k=>r.kids.getD (k+1) 0 | none=>-1)
 else if r.kind==8 then r.kids.getD 0 0
 else if r.kind==9 then r.kids.getD 0 0
 else -1
structure g_D (r:e_):Prop where
 arr:r.kind=5->r.kids.length=2
 cho:r.kind=7->r.kids.length=r.tags.length+1
 opt:r.kind=8->r.kids.length=1
 chk:r.kind=9->r.kids.length=1
theorem r_b {r:e_}{num:Int}(h:r.kids.length=r.tags.length+1):v_ (σ:=Unit) (ρ:=Int) (fun G=>(fun (_:Unit)=>bd (idx r.tags ((G:Nat):Int)) fun H=>if (H==num)=true then bd (idx r.kids ((G+1:Nat):Int)) fun I=>some (.ret I) else some (.next ()))) r.tags.length 0 ()=some (match a_H r.tags num with | some k=>.inr (r.kids.getD (k+1) 0) | none=>.inl ()):=by
 unfold a_H
 rw [f_u (fun k=>r.tags.getD k 0==num) (fun k=>r.kids.getD (k+1) 0)]
 ·cases (List.range r.tags.length).find? (fun k=>r.tags.getD k 0==num) <;> rfl
 ·intro k hk _
  rw [ix_ hk,bd_some,a_7 hk,ix_ (show k+1<r.kids.length by omega),bd_some,a_7 (show k+1<r.kids.length by omega)]
  by_cases h:r.tags[k]=num
  ·rw [show (r.tags[k]==num)=true by simpa using h];rfl
  ·rw [show (r.tags[k]==num)=false by simpa using h];rfl
theorem c_C {r:e_}(h:g_D r)(num:Int)(i:Nat):a_Z r num i=some (a_q r num i):=by
 unfold a_Z a_q
 by_cases h5:r.kind=5
 ·rw [h5];simp only [bQ_,fT_]
  rw [j_3 (by have:=h.arr h5;omega),a_7 (by have:=h.arr h5;omega)];rfl
 ·rw [show (r.kind==5)=false by simpa using h5]
  simp only [bF_,fF_]
  by_cases h6:r.kind=6
  ·rw [h6];simp only [bQ_,fT_]
   by_cases hi:i<r.kids.length
   ·rw [dT_ (by omega),ix_ hi,a_7 hi,iP_ rfl,iP_ hi];rfl
   ·rw [dF_ (by omega),iN_ (by simp),iN_ hi];rfl
  ·rw [show (r.kind==6)=false by simpa using h6]
   simp only [bF_,fF_]
   by_cases I:r.kind=7
   ·rw [I];simp only [bQ_,fT_]
    rw [r_b (h.cho I)]
    cases a_H r.tags num <;> rfl
   ·rw [show (r.kind==7)=false by simpa using I]
    simp only [bF_,fF_]
    by_cases G:r.kind=8
    ·rw [G];simp only [bQ_,fT_,bd_some]
     rw [b_7 (by have:=h.opt G;omega),a_7 (by have:=h.opt G;omega)];rfl
    ·rw [show (r.kind==8)=false by simpa using G]
     simp only [bF_,fF_]
     by_cases H:r.kind=9
     ·rw [H];simp only [bQ_,fT_,bd_some]
      rw [b_7 (by have:=h.chk H;omega),a_7 (by have:=h.chk H;omega)];rfl
     ·rw [show (r.kind==9)=false by simpa using H];rfl
theorem k_U {d:b_}{k:Int}{r:e_}(hk:idx d.rules k=some r)(h:g_D r)(v:Val)(i:Nat):c_L d k v i=some (a_q r v.number i):=by
 rw [← c_C h v.number i]
 unfold c_L a_Z
 rw [hk];rfl
end Go.Vw
