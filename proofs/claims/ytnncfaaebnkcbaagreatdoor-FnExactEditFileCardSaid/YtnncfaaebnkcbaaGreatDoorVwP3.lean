
import Derived.Test.YtnncfaaebnkcbaaGreatDoorVwP2
namespace Go.Vw
open Go.RowKit Dat
abbrev zV:Val:=⟨0,([]:List UInt8),([]:List Val)⟩
theorem a_k:LIM=4294967296:=rfl
theorem MXv:MX=1048576:=rfl
def a_i (b:List UInt8)(p q:Nat):List UInt8:=(b.take q).drop p
theorem d_v {b:List UInt8}{p q:Nat}(h1:p<=q)(h2:q<=b.length):slc b (p:Int) (q:Int)=some (a_i b p q):=by
 rw [e_X (by omega) (by omega) (by omega)];rfl
theorem f_B {b:List UInt8}{p q:Nat}(h2:q<=b.length):(a_i b p q).length=q - p:=by
 unfold a_i;simp;omega
def a_r (b:List UInt8)(r:b_)(at_:Nat):Option Int:=if (b.length:Int) - at_<r.size then none else some (e_3 (a_i b at_<|at_+r.size.toNat) r.little)
def e_Q (r:b_):Prop:=r.kind=1/\1<=r.size/\r.size<=4
theorem d_b {b:List UInt8}{r:b_}{at_:Nat}{n:Int}(hr:e_Q r)(h:a_r b r at_=some n):0<=n/\n<4294967296/\at_+r.size.toNat<=b.length:=by
 unfold a_r at h
 split at h
 ·cases h
 ·obtain ⟨_,h1,h4⟩:=hr
  cases Option.some.inj h
  have:=q_3 (a_i b at_<|at_+r.size.toNat) r.little (by rw [f_B (by omega)];omega);exact ⟨this.1,this.2,by omega⟩
section
variable {d:f_}{b:List UInt8}{r:b_}{k:Int}{at_:Nat}
theorem j_Y (hk:idx d.rules k=some r)(hr:e_Q r)(hb:b.length<=MX)(ha:at_<=b.length) :
  f_6 d k b at_=some (match a_r b r at_ with | none=>(0,(at_:Int),false) | some n=>(n,((at_+r.size.toNat:Nat):Int),true)):=by
 have hMX:=MXv;obtain ⟨_,h1,h4⟩:=hr;unfold f_6 a_r
 rw [hk,bd_some,b_s (x:=(b.length:Int)) (by omega) (by omega),ia_ (x:=(at_:Int)) (by omega) (by omega)]
 by_cases h:(b.length:Int) - at_<r.size
 ·rw [dT_ h,iP_ rfl,iP_ h]
 ·rw [dF_ h,iN_ (by simp),iN_ h,show (at_:Int)+r.size=((at_+r.size.toNat:Nat):Int) by omega,d_v (by omega) (by omega),bd_some,q_4 _ _ (by rw [f_B (by omega)];omega)]
  rfl
theorem i_t {n:Int}(hb:b.length<=MX)(ha:at_<=b.length)(G:0<=n)(hn:n<4294967296) :
  e_n ⟨d,b⟩ at_ n=some (if (b.length:Int) - at_<n then ([],some ((at_:Int),1)) else (a_i b at_<|at_+n.toNat,none)):=by
 have hMX:=MXv;unfold e_n b_N
 simp only
 rw [b_s (x:=(b.length:Int)) (by omega) (by omega),ia_ (x:=(at_:Int)) (by omega) (by omega)]
 by_cases h:(b.length:Int) - at_<n
 ·rw [dT_ h,iP_ rfl,iP_ h];rfl
 ·rw [dF_ h,iN_ (by simp),iN_ h,show (at_:Int)+n=((at_+n.toNat:Nat):Int) by omega,d_v (by omega) (by omega)];rfl
theorem i_u (hk:idx d.rules k=some r)(hr:e_Q r)(hb:b.length<=MX)(ha:at_<=b.length) :
  e_o ⟨d,b⟩ k at_=some (match a_r b r at_ with | none=>(0,(at_:Int),some ((at_:Int),1)) | some n=>(n,((at_+r.size.toNat:Nat):Int),none)):=by
 have hMX:=MXv;obtain ⟨_,h1,h4⟩:=hr;unfold e_o a_r
 simp only
 rw [hk,bd_some,i_t hb ha (by omega) (by omega)]
 by_cases h:(b.length:Int) - at_<r.size
 ·rw [iP_ h,iP_ h];rfl
 ·rw [iN_ h,iN_ h]
  simp only [bd2_some]
  rw [q_5 _ _ (by rw [f_B (by omega)];omega),ia_ (by omega) (by omega),show (at_:Int)+r.size=((at_+r.size.toNat:Nat):Int) by omega]
  rfl
def b_K (b bs:List UInt8)(at_ k:Nat):Bool:=match b[at_+k]? with
 | none=>true
 | some c=>byteI c != byteI (bs.getD k 0)
def b_m (b bs:List UInt8)(at_:Nat):Nat×Int:=match (List.range bs.length).find? (b_K b bs at_) with
 | none=>(at_+bs.length,0)
 | some k=>if b.length<=at_+k then (at_,1) else (at_+k,2)
theorem q_i (hb:b.length<=MX)(ha:at_<=b.length)(hr:r.bytes.length<=MX):h_7 r b at_=some (zV,((b_m b r.bytes at_).1:Int),(b_m b r.bytes at_).2):=by
 have hMX:=MXv;unfold h_7 b_m
 rw [i_A (b_K b r.bytes at_) (fun k=>if b.length<=at_+k then (zV,(at_:Int),(1:Int)) else (zV,((at_+k:Nat):Int),2))]
 ·rw [ia_ (x:=(at_:Int)) (by omega) (by omega)]
  cases (List.range r.bytes.length).find? (b_K b r.bytes at_) with
  | none=>simp only [bd_some,el_inl];congr 3
  | some k =>
   simp only [bd_some,el_inr]
   split <;> rfl
 ·intro k hk _
  rw [ia_ (x:=(at_:Int)) (by omega) (by omega),show (at_:Int)+k=((at_+k:Nat):Int) by omega,ix_ hk]
  by_cases h:at_+k<b.length
  ·rw [dF_ (by omega),ix_ h,show b_K b r.bytes at_ k=(byteI b[at_+k] != byteI r.bytes[k]) by unfold b_K;rw [gG_ h,a_7 hk]]
   rw [iN_ (show ¬b.length<=at_+k by omega)]
   simp only [bd_some,bF_,fF_]
   exact d_s _ _
  ·rw [dT_ (by omega),show b_K b r.bytes at_ k=true by unfold b_K;rw [gN_ (by omega)]]
   rw [iP_ (show b.length<=at_+k by omega)]
   rfl
theorem q_j (hb:b.length<=MX)(ha:at_<=b.length)(hr:r.bytes.length<=MX):h_o ⟨d,b⟩ r at_=some (if (b_m b r.bytes at_).2=0 then (((b_m b r.bytes at_).1:Int),none) else ((at_:Int),some (((b_m b r.bytes at_).1:Int),(b_m b r.bytes at_).2))):=by
 have hMX:=MXv;unfold h_o b_m b_N
 simp only
 rw [i_A (b_K b r.bytes at_) (fun k=>if b.length<=at_+k then ((at_:Int),some ((at_:Int),(1:Int))) else ((at_:Int),some (((at_+k:Nat):Int),2)))]
 ·rw [ia_ (x:=(at_:Int)) (by omega) (by omega)]
  cases (List.range r.bytes.length).find? (b_K b r.bytes at_) with
  | none=>rfl
  | some k =>
   simp only [bd_some,el_inr]
   by_cases h:b.length<=at_+k
   ·rw [iP_ h,iP_ h];rfl
   ·rw [iN_ h,iN_ h];rfl
 ·intro k hk _
  rw [ia_ (x:=(at_:Int)) (by omega) (by omega),show (at_:Int)+k=((at_+k:Nat):Int) by omega,ix_ hk]
  by_cases h:at_+k<b.length
  ·rw [bd_some,dF_ (by omega),ix_ h,show b_K b r.bytes at_ k=(byteI b[at_+k] != byteI r.bytes[k]) by unfold b_K;rw [gG_ h,a_7 hk]]
   rw [iN_ (show ¬b.length<=at_+k by omega)]
   simp only [bd_some,bF_,fF_]
   exact d_s _ _
  ·rw [bd_some,dT_ (by omega),show b_K b r.bytes at_ k=true by unfold b_K;rw [gN_ (by omega)]]
   rw [iP_ (show b.length<=at_+k by omega)]
   rfl
theorem q_k (ha:at_<=b.length)(bs:List UInt8):at_<=(b_m b bs at_).1/\(b_m b bs at_).1<=b.length:=by
 unfold b_m
 cases hf:(List.range bs.length).find? (b_K b bs at_) with
 | none =>
  simp only
  refine ⟨by omega,?_⟩
  cases hl:bs.length with
  | zero=>omega
  | succ m =>
   have:=List.find?_eq_none.1 hf m<|List.mem_range.2 (by omega);unfold b_K at this
   by_cases h:at_+m<b.length
   ·omega
   ·rw [gN_ (by omega)] at this;simp at this
 | some k =>
  simp only
  split
  ·exact ⟨Nat.le_refl _,ha⟩
  ·exact ⟨by omega,by omega⟩
theorem q_l {bs:List UInt8}(h:(b_m b bs at_).2=0):(b_m b bs at_).1=at_+bs.length:=by
 unfold b_m at *
 cases hf:(List.range bs.length).find? (b_K b bs at_) with
 | none=>rfl
 | some k =>
  rw [hf] at h
  simp only at h
  split at h <;> cases h
def a_K (b:List UInt8)(at_:Nat)(n:Int):Val×Nat×Int:=if (b.length:Int) - at_<n then (zV,at_,1) else (⟨0,a_i b at_<|at_+n.toNat,[]⟩,at_+n.toNat,0)
theorem m_z {n:Int}(hb:b.length<=MX)(ha:at_<=b.length)(G:0<=n)(hn:n<4294967296):f_O b at_ n=some ((a_K b at_ n).1,((a_K b at_ n).2.1:Int),(a_K b at_ n).2.2):=by
 have hMX:=MXv;unfold f_O a_K
 rw [b_s (x:=(b.length:Int)) (by omega) (by omega),ia_ (x:=(at_:Int)) (by omega) (by omega)]
 by_cases h:(b.length:Int) - at_<n
 ·rw [dT_ h,iP_ rfl,iP_ h]
 ·rw [dF_ h,iN_ (by simp),iN_ h,show (at_:Int)+n=((at_+n.toNat:Nat):Int) by omega,d_v (by omega) (by omega),bd_some,b_C (by rw [f_B (by omega)];simp [a_k];omega)]
  simp
theorem m_A {n:Int}(hb:b.length<=MX)(ha:at_<=b.length)(G:0<=n)(hn:n<4294967296):f_T ⟨d,b⟩ at_ n=some (if (a_K b at_ n).2.2=0 then ((a_K b at_ n).1,((a_K b at_ n).2.1:Int),none) else (zV,(at_:Int),some (((a_K b at_ n).2.1:Int),(a_K b at_ n).2.2))):=by
 have hMX:=MXv;unfold f_T a_K
 rw [i_t hb ha G hn]
 by_cases h:(b.length:Int) - at_<n
 ·rw [iP_ h,iP_ h];rfl
 ·rw [iN_ h,iN_ h]
  simp only [bd2_some]
  rw [b_C (by rw [f_B (by omega)];simp [a_k];omega),ia_ (x:=(at_:Int)) (by omega) (by omega),show (at_:Int)+n=((at_+n.toNat:Nat):Int) by omega]
  rfl
end
def b_1 (ts:List Int)(n:Int):Option Nat:=(List.range ts.length).find? (fun k=>ts.getD k 0==n)
def a_f (r:b_)(num:Int)(i:Nat):Int :=
 if r.kind==5 then r.kids.getD 1 0
 else if r.kind==6 then (if i<r.kids.length then r.kids.getD i 0 else -1)
 else if r.kind==7 then (match b_1 r.tags num with | some k=>r.kids.getD (k+1) 0 | none=>-1)
 else if r.kind==8 then r.kids.getD 0 0
 else if r.kind==9 then r.kids.getD 0 0
 else -1
structure e_R (r:b_):Prop where
 arr:r.kind=5->r.kids.length=2
 cho:r.kind=7->r.kids.length=r.tags.length+1
 opt:r.kind=8->r.kids.length=1
 chk:r.kind=9->r.kids.length=1
theorem q_m {r:b_}{num:Int}(h:r.kids.length=r.tags.length+1):w_ (σ:=Unit) (ρ:=Int) (fun G=>(fun (_:Unit)=>bd (idx r.tags ((G:Nat):Int)) fun H=>if (H==num)=true then bd (idx r.kids ((G+1:Nat):Int)) fun I=>some (.ret I) else some (.next ()))) r.tags.length 0 ()=some (match b_1 r.tags num with | some k=>.inr (r.kids.getD (k+1) 0) | none=>.inl ()):=by
 unfold b_1
 rw [i_A (fun k=>r.tags.getD k 0==num) (fun k=>r.kids.getD (k+1) 0)]
 ·cases (List.range r.tags.length).find? (fun k=>r.tags.getD k 0==num) <;> rfl
 ·intro k hk _
  rw [ix_ hk,bd_some,a_7 hk,ix_ (show k+1<r.kids.length by omega),bd_some,a_7 (show k+1<r.kids.length by omega)]
  by_cases h:r.tags[k]=num
  ·rw [show (r.tags[k]==num)=true by simpa using h];rfl
  ·rw [show (r.tags[k]==num)=false by simpa using h];rfl
theorem e_7 {r:b_}(h:e_R r)(num:Int)(i:Nat):b_d r num i=some (a_f r num i):=by
 unfold b_d a_f
 by_cases h5:r.kind=5
 ·rw [h5];simp only [bQ_,fT_]
  rw [m_R (by have:=h.arr h5;omega),a_7 (by have:=h.arr h5;omega)];rfl
 ·rw [show (r.kind==5)=false by simpa using h5]
  simp only [bF_,fF_]
  by_cases h6:r.kind=6
  ·rw [h6];simp only [bQ_,fT_]
   by_cases hi:i<r.kids.length
   ·rw [dT_ (by omega),ix_ hi,a_7 hi,iP_ rfl,iP_ hi];rfl
   ·rw [dF_ (by omega),iN_ (by simp),iN_ hi];rfl
  ·rw [show (r.kind==6)=false by simpa using h6]
   simp only [bF_,fF_]
   by_cases I:r.kind=7
   ·rw [I];simp only [bQ_,fT_]
    rw [q_m (h.cho I)]
    cases b_1 r.tags num <;> rfl
   ·rw [show (r.kind==7)=false by simpa using I]
    simp only [bF_,fF_]
    by_cases G:r.kind=8
    ·rw [G];simp only [bQ_,fT_,bd_some]
     rw [b_8 (by have:=h.opt G;omega),a_7 (by have:=h.opt G;omega)];rfl
    ·rw [show (r.kind==8)=false by simpa using G]
     simp only [bF_,fF_]
     by_cases H:r.kind=9
     ·rw [H];simp only [bQ_,fT_,bd_some]
      rw [b_8 (by have:=h.chk H;omega),a_7 (by have:=h.chk H;omega)];rfl
     ·rw [show (r.kind==9)=false by simpa using H];rfl
theorem i_v {d:f_}{k:Int}{r:b_}(hk:idx d.rules k=some r)(h:e_R r)(v:Val)(i:Nat):d_m d k v i=some (a_f r v.number i):=by
 rw [← e_7 h v.number i]
 unfold d_m b_d
 rw [hk];rfl
end Go.Vw
