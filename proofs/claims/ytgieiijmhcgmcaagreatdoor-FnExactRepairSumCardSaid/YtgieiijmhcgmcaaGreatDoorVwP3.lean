
import Derived.Test.YtgieiijmhcgmcaaGreatDoorVwP2
namespace Go.Vw
open Go.RowKit Dat
abbrev zV:Val:=⟨0,([]:List UInt8),([]:List Val)⟩
theorem b_0:LIM=4294967296:=rfl
theorem MXv:MX=1048576:=rfl
def piece (b:List UInt8)(p q:Nat):List UInt8:=(b.take q).drop p
theorem b_W {b:List UInt8}{p q:Nat}(h1:p<=q)(h2:q<=b.length):slc b (p:Int) (q:Int)=some (piece b p q):=by
 rw [h_l (by omega) (by omega) (by omega)];rfl
theorem c_7 {b:List UInt8}{p q:Nat}(h2:q<=b.length):(piece b p q).length=q - p:=by
 unfold piece;simp;omega
def J_ (b:List UInt8)(r:a_)(at_:Nat):Option Int:=if (b.length:Int) - at_<r.size then none else some (d_h (piece b at_<|at_+r.size.toNat) r.little)
def d_i (r:a_):Prop:=r.kind=1/\1<=r.size/\r.size<=4
theorem a_S {b:List UInt8}{r:a_}{at_:Nat}{n:Int}(hr:d_i r)(h:J_ b r at_=some n):0<=n/\n<4294967296/\at_+r.size.toNat<=b.length:=by
 unfold J_ at h
 split at h
 ·cases h
 ·obtain ⟨_,h1,h4⟩:=hr
  cases Option.some.inj h
  have:=o_R (piece b at_<|at_+r.size.toNat) r.little (by rw [c_7 (by omega)];omega);exact ⟨this.1,this.2,by omega⟩
section
variable {d:g_}{b:List UInt8}{r:a_}{k:Int}{at_:Nat}
theorem j_e (hk:idx d.rules k=some r)(hr:d_i r)(hb:b.length<=MX)(ha:at_<=b.length) :
  d_T d k b at_=some (match J_ b r at_ with | none=>(0,(at_:Int),false) | some n=>(n,((at_+r.size.toNat:Nat):Int),true)):=by
 have hMX:=MXv;obtain ⟨_,h1,h4⟩:=hr;unfold d_T J_
 rw [hk,bd_some,a_W (x:=(b.length:Int)) (by omega) (by omega),ia_ (x:=(at_:Int)) (by omega) (by omega)]
 by_cases h:(b.length:Int) - at_<r.size
 ·rw [dT_ h,iP_ rfl,iP_ h]
 ·rw [dF_ h,iN_ (by simp),iN_ h,show (at_:Int)+r.size=((at_+r.size.toNat:Nat):Int) by omega,b_W (by omega) (by omega),bd_some,o_S _ _ (by rw [c_7 (by omega)];omega)]
  rfl
theorem h_f {n:Int}(hb:b.length<=MX)(ha:at_<=b.length)(G:0<=n)(hn:n<4294967296) :
  d_u ⟨d,b⟩ at_ n=some (if (b.length:Int) - at_<n then ([],some ((at_:Int),1)) else (piece b at_<|at_+n.toNat,none)):=by
 have hMX:=MXv;unfold d_u b_l
 simp only
 rw [a_W (x:=(b.length:Int)) (by omega) (by omega),ia_ (x:=(at_:Int)) (by omega) (by omega)]
 by_cases h:(b.length:Int) - at_<n
 ·rw [dT_ h,iP_ rfl,iP_ h];rfl
 ·rw [dF_ h,iN_ (by simp),iN_ h,show (at_:Int)+n=((at_+n.toNat:Nat):Int) by omega,b_W (by omega) (by omega)];rfl
theorem h_g (hk:idx d.rules k=some r)(hr:d_i r)(hb:b.length<=MX)(ha:at_<=b.length) :
  d_v ⟨d,b⟩ k at_=some (match J_ b r at_ with | none=>(0,(at_:Int),some ((at_:Int),1)) | some n=>(n,((at_+r.size.toNat:Nat):Int),none)):=by
 have hMX:=MXv;obtain ⟨_,h1,h4⟩:=hr;unfold d_v J_
 simp only
 rw [hk,bd_some,h_f hb ha (by omega) (by omega)]
 by_cases h:(b.length:Int) - at_<r.size
 ·rw [iP_ h,iP_ h];rfl
 ·rw [iN_ h,iN_ h]
  simp only [bd2_some]
  rw [h_a _ _ (by rw [c_7 (by omega)];omega),ia_ (by omega) (by omega),show (at_:Int)+r.size=((at_+r.size.toNat:Nat):Int) by omega]
  rfl
theorem f_g {ap n:Int}(hb:b.length<=MX)(ha:at_<=b.length)(G:0<=n)(hn:n<4294967296) :
  c_Q ⟨d,b,ap⟩ at_ n=some (if (b.length:Int) - at_<n then ⟨(at_:Int),1⟩ else ⟨((at_+n.toNat:Nat):Int),0⟩):=by
 have hMX:=MXv;unfold c_Q
 simp only
 rw [a_W (x:=(b.length:Int)) (by omega) (by omega),ia_ (x:=(at_:Int)) (by omega) (by omega)]
 by_cases h:(b.length:Int) - at_<n
 ·rw [dT_ h,iP_ rfl,iP_ h]
 ·rw [dF_ h,iN_ (by simp),iN_ h,show (at_:Int)+n=((at_+n.toNat:Nat):Int) by omega]
theorem h_h {ap:Int}(hk:idx d.rules k=some r)(hr:d_i r)(hb:b.length<=MX)(ha:at_<=b.length) :
  d_s ⟨d,b,ap⟩ k at_=some (match J_ b r at_ with | none=>(0,⟨(at_:Int),1⟩,h_ ap 1) | some n=>(n,⟨((at_+r.size.toNat:Nat):Int),0⟩,h_ ap 1)):=by
 have hMX:=MXv;obtain ⟨_,h1,h4⟩:=hr;unfold d_s J_
 simp only
 rw [hk,bd_some,f_g hb ha (by omega) (by omega)]
 by_cases h:(b.length:Int) - at_<r.size
 ·rw [iP_ h,iP_ h];rfl
 ·rw [iN_ h,iN_ h]
  simp only [bd_some]
  rw [b_W (by omega) (by omega),bd_some,h_a _ _ (by rw [c_7 (by omega)];omega)]
  rfl
def a_v (b bs:List UInt8)(at_ k:Nat):Bool:=match b[at_+k]? with
 | none=>true
 | some c=>byteI c != byteI (bs.getD k 0)
def a_w (b bs:List UInt8)(at_:Nat):Nat×Int:=match (List.range bs.length).find? (a_v b bs at_) with
 | none=>(at_+bs.length,0)
 | some k=>if b.length<=at_+k then (at_,1) else (at_+k,2)
theorem p_7 (hb:b.length<=MX)(ha:at_<=b.length)(hr:r.bytes.length<=MX):f_B r b at_=some (zV,((a_w b r.bytes at_).1:Int),(a_w b r.bytes at_).2):=by
 have hMX:=MXv;unfold f_B a_w
 rw [d_R (a_v b r.bytes at_) (fun k=>if b.length<=at_+k then (zV,(at_:Int),(1:Int)) else (zV,((at_+k:Nat):Int),2))]
 ·rw [ia_ (x:=(at_:Int)) (by omega) (by omega)]
  cases (List.range r.bytes.length).find? (a_v b r.bytes at_) with
  | none=>simp only [bd_some,el_inl];congr 3
  | some k =>
   simp only [bd_some,el_inr]
   split <;> rfl
 ·intro k hk _
  rw [ia_ (x:=(at_:Int)) (by omega) (by omega),show (at_:Int)+k=((at_+k:Nat):Int) by omega,ix_ hk]
  by_cases h:at_+k<b.length
  ·rw [dF_ (by omega),ix_ h,show a_v b r.bytes at_ k=(byteI b[at_+k] != byteI r.bytes[k]) by unfold a_v;rw [gG_ h,a_2 hk]]
   rw [iN_ (show ¬b.length<=at_+k by omega)]
   simp only [bd_some,bF_,fF_]
   exact c_m _ _
  ·rw [dT_ (by omega),show a_v b r.bytes at_ k=true by unfold a_v;rw [gN_ (by omega)]]
   rw [iP_ (show b.length<=at_+k by omega)]
   rfl
theorem p_8 (hb:b.length<=MX)(ha:at_<=b.length)(hr:r.bytes.length<=MX):g_1 ⟨d,b⟩ r at_=some (if (a_w b r.bytes at_).2=0 then (((a_w b r.bytes at_).1:Int),none) else ((at_:Int),some (((a_w b r.bytes at_).1:Int),(a_w b r.bytes at_).2))):=by
 have hMX:=MXv;unfold g_1 a_w b_l
 simp only
 rw [d_R (a_v b r.bytes at_) (fun k=>if b.length<=at_+k then ((at_:Int),some ((at_:Int),(1:Int))) else ((at_:Int),some (((at_+k:Nat):Int),2)))]
 ·rw [ia_ (x:=(at_:Int)) (by omega) (by omega)]
  cases (List.range r.bytes.length).find? (a_v b r.bytes at_) with
  | none=>rfl
  | some k =>
   simp only [bd_some,el_inr]
   by_cases h:b.length<=at_+k
   ·rw [iP_ h,iP_ h];rfl
   ·rw [iN_ h,iN_ h];rfl
 ·intro k hk _
  rw [ia_ (x:=(at_:Int)) (by omega) (by omega),show (at_:Int)+k=((at_+k:Nat):Int) by omega,ix_ hk]
  by_cases h:at_+k<b.length
  ·rw [bd_some,dF_ (by omega),ix_ h,show a_v b r.bytes at_ k=(byteI b[at_+k] != byteI r.bytes[k]) by unfold a_v;rw [gG_ h,a_2 hk]]
   rw [iN_ (show ¬b.length<=at_+k by omega)]
   simp only [bd_some,bF_,fF_]
   exact c_m _ _
  ·rw [bd_some,dT_ (by omega),show a_v b r.bytes at_ k=true by unfold a_v;rw [gN_ (by omega)]]
   rw [iP_ (show b.length<=at_+k by omega)]
   rfl
theorem p_9 {ap:Int}(hb:b.length<=MX)(ha:at_<=b.length)(hr:r.bytes.length<=MX):f_R ⟨d,b,ap⟩ r at_=some ⟨((a_w b r.bytes at_).1:Int),(a_w b r.bytes at_).2⟩:=by
 have hMX:=MXv;unfold f_R a_w
 simp only
 rw [d_R (a_v b r.bytes at_) (fun k=>if b.length<=at_+k then (⟨(at_:Int),1⟩:B_) else ⟨((at_+k:Nat):Int),2⟩)]
 ·rw [ia_ (x:=(at_:Int)) (by omega) (by omega)]
  cases (List.range r.bytes.length).find? (a_v b r.bytes at_) with
  | none=>rfl
  | some k =>
   simp only [bd_some,el_inr]
   by_cases h:b.length<=at_+k
   ·rw [iP_ h,iP_ h]
   ·rw [iN_ h,iN_ h]
 ·intro k hk hbef
  have hle:at_+k<=b.length:=by
   cases k with
   | zero=>omega
   | succ k =>
    have:=hbef k (by omega);unfold a_v at this
    by_cases h:at_+k<b.length
    ·omega
    ·rw [gN_ (by omega)] at this;cases this
  rw [ia_ (x:=(at_:Int)) (by omega) (by omega),show (at_:Int)+k=((at_+k:Nat):Int) by omega,ix_ hk]
  by_cases h:at_+k<b.length
  ·rw [bd_some,show (((at_+k:Nat):Int)==(b.length:Int))=false by simp;omega,ix_ h,show a_v b r.bytes at_ k=(byteI b[at_+k] != byteI r.bytes[k]) by unfold a_v;rw [gG_ h,a_2 hk]]
   rw [iN_ (show ¬b.length<=at_+k by omega)]
   simp only [bd_some,bF_,fF_]
   exact c_m _ _
  ·rw [bd_some,show (((at_+k:Nat):Int)==(b.length:Int))=true by simp;omega,show a_v b r.bytes at_ k=true by unfold a_v;rw [gN_ (by omega)]]
   rw [iP_ (show b.length<=at_+k by omega)]
   rfl
theorem p_a (ha:at_<=b.length)(bs:List UInt8):at_<=(a_w b bs at_).1/\(a_w b bs at_).1<=b.length:=by
 unfold a_w
 cases hf:(List.range bs.length).find? (a_v b bs at_) with
 | none =>
  simp only
  refine ⟨by omega,?_⟩
  cases hl:bs.length with
  | zero=>omega
  | succ m =>
   have:=List.find?_eq_none.1 hf m<|List.mem_range.2 (by omega);unfold a_v at this
   by_cases h:at_+m<b.length
   ·omega
   ·rw [gN_ (by omega)] at this;simp at this
 | some k =>
  simp only
  split
  ·exact ⟨Nat.le_refl _,ha⟩
  ·exact ⟨by omega,by omega⟩
theorem p_b {bs:List UInt8}(h:(a_w b bs at_).2=0):(a_w b bs at_).1=at_+bs.length:=by
 unfold a_w at *
 cases hf:(List.range bs.length).find? (a_v b bs at_) with
 | none=>rfl
 | some k =>
  rw [hf] at h
  simp only at h
  split at h <;> cases h
def a_k (b:List UInt8)(at_:Nat)(n:Int):Val×Nat×Int:=if (b.length:Int) - at_<n then (zV,at_,1) else (⟨0,piece b at_<|at_+n.toNat,[]⟩,at_+n.toNat,0)
theorem l_4 {n:Int}(hb:b.length<=MX)(ha:at_<=b.length)(G:0<=n)(hn:n<4294967296):e_x b at_ n=some ((a_k b at_ n).1,((a_k b at_ n).2.1:Int),(a_k b at_ n).2.2):=by
 have hMX:=MXv;unfold e_x a_k
 rw [a_W (x:=(b.length:Int)) (by omega) (by omega),ia_ (x:=(at_:Int)) (by omega) (by omega)]
 by_cases h:(b.length:Int) - at_<n
 ·rw [dT_ h,iP_ rfl,iP_ h]
 ·rw [dF_ h,iN_ (by simp),iN_ h,show (at_:Int)+n=((at_+n.toNat:Nat):Int) by omega,b_W (by omega) (by omega),bd_some,h_m (by rw [c_7 (by omega)];simp [b_0];omega)]
  simp
theorem l_5 {n:Int}(hb:b.length<=MX)(ha:at_<=b.length)(G:0<=n)(hn:n<4294967296):e_H ⟨d,b⟩ at_ n=some (if (a_k b at_ n).2.2=0 then ((a_k b at_ n).1,((a_k b at_ n).2.1:Int),none) else (zV,(at_:Int),some (((a_k b at_ n).2.1:Int),(a_k b at_ n).2.2))):=by
 have hMX:=MXv;unfold e_H a_k
 rw [h_f hb ha G hn]
 by_cases h:(b.length:Int) - at_<n
 ·rw [iP_ h,iP_ h];rfl
 ·rw [iN_ h,iN_ h]
  simp only [bd2_some]
  rw [h_m (by rw [c_7 (by omega)];simp [b_0];omega),ia_ (x:=(at_:Int)) (by omega) (by omega),show (at_:Int)+n=((at_+n.toNat:Nat):Int) by omega]
  rfl
end
def a_p (ts:List Int)(n:Int):Option Nat:=(List.range ts.length).find? (fun k=>ts.getD k 0==n)
def b_a (r:a_)(num:Int)(i:Nat):Int :=
 if r.kind==5 then r.kids.getD 1 0
 else if r.kind==6 then (if i<r.kids.length then r.kids.getD i 0 else -1)
 else if r.kind==7 then (match a_p r.tags num with | some k=>r.kids.getD (k+1) 0 | none=>-1)
 else if r.kind==8 then r.kids.getD 0 0
 else if r.kind==9 then r.kids.getD 0 0
 else -1
structure j_f (r:a_):Prop where
 arr:r.kind=5->r.kids.length=2
 cho:r.kind=7->r.kids.length=r.tags.length+1
 opt:r.kind=8->r.kids.length=1
 chk:r.kind=9->r.kids.length=1
theorem p_c {r:a_}{num:Int}(h:r.kids.length=r.tags.length+1):u_ (σ:=Unit) (ρ:=Int) (fun G=>(fun (_:Unit)=>bd (idx r.tags ((G:Nat):Int)) fun H=>if (H==num)=true then bd (idx r.kids ((G+1:Nat):Int)) fun I=>some (.ret I) else some (.next ()))) r.tags.length 0 ()=some (match a_p r.tags num with | some k=>.inr (r.kids.getD (k+1) 0) | none=>.inl ()):=by
 unfold a_p
 rw [d_R (fun k=>r.tags.getD k 0==num) (fun k=>r.kids.getD (k+1) 0)]
 ·cases (List.range r.tags.length).find? (fun k=>r.tags.getD k 0==num) <;> rfl
 ·intro k hk _
  rw [ix_ hk,bd_some,a_2 hk,ix_ (show k+1<r.kids.length by omega),bd_some,a_2 (show k+1<r.kids.length by omega)]
  by_cases h:r.tags[k]=num
  ·rw [show (r.tags[k]==num)=true by simpa using h];rfl
  ·rw [show (r.tags[k]==num)=false by simpa using h];rfl
theorem l_6 {r:a_}(h:j_f r)(num:Int)(i:Nat):d_p r num i=some (b_a r num i):=by
 unfold d_p b_a
 by_cases h5:r.kind=5
 ·rw [h5];simp only [bQ_,fT_]
  rw [f_m (by have:=h.arr h5;omega),a_2 (by have:=h.arr h5;omega)];rfl
 ·rw [show (r.kind==5)=false by simpa using h5]
  simp only [bF_,fF_]
  by_cases h6:r.kind=6
  ·rw [h6];simp only [bQ_,fT_]
   by_cases hi:i<r.kids.length
   ·rw [dT_ (by omega),ix_ hi,a_2 hi,iP_ rfl,iP_ hi];rfl
   ·rw [dF_ (by omega),iN_ (by simp),iN_ hi];rfl
  ·rw [show (r.kind==6)=false by simpa using h6]
   simp only [bF_,fF_]
   by_cases I:r.kind=7
   ·rw [I];simp only [bQ_,fT_]
    rw [p_c (h.cho I)]
    cases a_p r.tags num <;> rfl
   ·rw [show (r.kind==7)=false by simpa using I]
    simp only [bF_,fF_]
    by_cases G:r.kind=8
    ·rw [G];simp only [bQ_,fT_,bd_some]
     rw [b_k (by have:=h.opt G;omega),a_2 (by have:=h.opt G;omega)];rfl
    ·rw [show (r.kind==8)=false by simpa using G]
     simp only [bF_,fF_]
     by_cases H:r.kind=9
     ·rw [H];simp only [bQ_,fT_,bd_some]
      rw [b_k (by have:=h.chk H;omega),a_2 (by have:=h.chk H;omega)];rfl
     ·rw [show (r.kind==9)=false by simpa using H];rfl
end Go.Vw
