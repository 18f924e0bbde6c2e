
import Derived.Test.YthlifogbkgdggaaGreatDoorVwP2
namespace Go.Vw
open Go.RowKit Dat
abbrev zV:Val:=⟨0,([]:List UInt8),([]:List Val)⟩
theorem a_v:LIM=4294967296:=rfl
theorem MXv:MX=1048576:=rfl
def b_l (b:List UInt8)(p q:Nat):List UInt8:=(b.take q).drop p
theorem e_d {b:List UInt8}{p q:Nat}(h1:p<=q)(h2:q<=b.length):slc b (p:Int) (q:Int)=some (b_l b p q):=by
 rw [h_3 (by omega) (by omega) (by omega)];rfl
theorem e_e {b:List UInt8}{p q:Nat}(h2:q<=b.length):(b_l b p q).length=q - p:=by
 unfold b_l;simp;omega
def a_a (b:List UInt8)(r:g_)(at_:Nat):Option Int:=if (b.length:Int) - at_<r.size then none else some (c_Y (b_l b at_<|at_+r.size.toNat) r.little)
def d_B (r:g_):Prop:=r.kind=1/\1<=r.size/\r.size<=4
theorem b_b {b:List UInt8}{r:g_}{at_:Nat}{n:Int}(hr:d_B r)(h:a_a b r at_=some n):0<=n/\n<4294967296/\at_+r.size.toNat<=b.length:=by
 unfold a_a at h
 split at h
 ·cases h
 ·obtain ⟨_,h1,h4⟩:=hr
  cases Option.some.inj h
  have:=m_u (b_l b at_<|at_+r.size.toNat) r.little (by rw [e_e (by omega)];omega);exact ⟨this.1,this.2,by omega⟩
section
variable {d:d_}{b:List UInt8}{r:g_}{k:Int}{at_:Nat}
theorem f_c (hk:idx d.rules k=some r)(hr:d_B r)(hb:b.length<=MX)(ha:at_<=b.length) :
  d_f d k b at_=some (match a_a b r at_ with | none=>(0,(at_:Int),false) | some n=>(n,((at_+r.size.toNat:Nat):Int),true)):=by
 have hMX:=MXv;obtain ⟨_,h1,h4⟩:=hr;unfold d_f a_a
 rw [hk,bd_some,a_y (x:=(b.length:Int)) (by omega) (by omega),ia_ (x:=(at_:Int)) (by omega) (by omega)]
 by_cases h:(b.length:Int) - at_<r.size
 ·rw [dT_ h,iP_ rfl,iP_ h]
 ·rw [dF_ h,iN_ (by simp),iN_ h,show (at_:Int)+r.size=((at_+r.size.toNat:Nat):Int) by omega,e_d (by omega) (by omega),bd_some,m_v _ _ (by rw [e_e (by omega)];omega)]
  rfl
theorem f_d {ap n:Int}(hb:b.length<=MX)(ha:at_<=b.length)(G:0<=n)(hn:n<4294967296) :
  c_M ⟨d,b,ap⟩ at_ n=some (if (b.length:Int) - at_<n then ⟨(at_:Int),1⟩ else ⟨((at_+n.toNat:Nat):Int),0⟩):=by
 have hMX:=MXv;unfold c_M
 simp only
 rw [a_y (x:=(b.length:Int)) (by omega) (by omega),ia_ (x:=(at_:Int)) (by omega) (by omega)]
 by_cases h:(b.length:Int) - at_<n
 ·rw [dT_ h,iP_ rfl,iP_ h]
 ·rw [dF_ h,iN_ (by simp),iN_ h,show (at_:Int)+n=((at_+n.toNat:Nat):Int) by omega]
theorem g_P {ap:Int}(hk:idx d.rules k=some r)(hr:d_B r)(hb:b.length<=MX)(ha:at_<=b.length) :
  d_h ⟨d,b,ap⟩ k at_=some (match a_a b r at_ with | none=>(0,⟨(at_:Int),1⟩,h_ ap 1) | some n=>(n,⟨((at_+r.size.toNat:Nat):Int),0⟩,h_ ap 1)):=by
 have hMX:=MXv;obtain ⟨_,h1,h4⟩:=hr;unfold d_h a_a
 simp only
 rw [hk,bd_some,f_d hb ha (by omega) (by omega)]
 by_cases h:(b.length:Int) - at_<r.size
 ·rw [iP_ h,iP_ h];rfl
 ·rw [iN_ h,iN_ h]
  simp only [bd_some]
  rw [e_d (by omega) (by omega),bd_some,j_W _ _ (by rw [e_e (by omega)];omega)]
  rfl
def b_g (b bs:List UInt8)(at_ k:Nat):Bool:=match b[at_+k]? with
 | none=>true
 | some c=>byteI c != byteI (bs.getD k 0)
def c_2 (b bs:List UInt8)(at_:Nat):Nat×Int:=match (List.range bs.length).find? (b_g b bs at_) with
 | none=>(at_+bs.length,0)
 | some k=>if b.length<=at_+k then (at_,1) else (at_+k,2)
theorem m_A (hb:b.length<=MX)(ha:at_<=b.length)(hr:r.bytes.length<=MX):f_A r b at_=some (zV,((c_2 b r.bytes at_).1:Int),(c_2 b r.bytes at_).2):=by
 have hMX:=MXv;unfold f_A c_2
 rw [f_k (b_g b r.bytes at_) (fun k=>if b.length<=at_+k then (zV,(at_:Int),(1:Int)) else (zV,((at_+k:Nat):Int),2))]
 ·rw [ia_ (x:=(at_:Int)) (by omega) (by omega)]
  cases (List.range r.bytes.length).find? (b_g b r.bytes at_) with
  | none=>simp only [bd_some,el_inl];congr 3
  | some k =>
   simp only [bd_some,el_inr]
   split <;> rfl
 ·intro k hk _
  rw [ia_ (x:=(at_:Int)) (by omega) (by omega),show (at_:Int)+k=((at_+k:Nat):Int) by omega,ix_ hk]
  by_cases h:at_+k<b.length
  ·rw [dF_ (by omega),ix_ h,show b_g b r.bytes at_ k=(byteI b[at_+k] != byteI r.bytes[k]) by unfold b_g;rw [gG_ h,a_m hk]]
   rw [iN_ (show ¬b.length<=at_+k by omega)]
   simp only [bd_some,bF_,fF_]
   exact c_C _ _
  ·rw [dT_ (by omega),show b_g b r.bytes at_ k=true by unfold b_g;rw [gN_ (by omega)]]
   rw [iP_ (show b.length<=at_+k by omega)]
   rfl
theorem m_B {ap:Int}(hb:b.length<=MX)(ha:at_<=b.length)(hr:r.bytes.length<=MX):f_P ⟨d,b,ap⟩ r at_=some ⟨((c_2 b r.bytes at_).1:Int),(c_2 b r.bytes at_).2⟩:=by
 have hMX:=MXv;unfold f_P c_2
 simp only
 rw [f_k (b_g b r.bytes at_) (fun k=>if b.length<=at_+k then (⟨(at_:Int),1⟩:D_) else ⟨((at_+k:Nat):Int),2⟩)]
 ·rw [ia_ (x:=(at_:Int)) (by omega) (by omega)]
  cases (List.range r.bytes.length).find? (b_g b r.bytes at_) with
  | none=>rfl
  | some k =>
   simp only [bd_some,el_inr]
   by_cases h:b.length<=at_+k
   ·rw [iP_ h,iP_ h]
   ·rw [iN_ h,iN_ h]
 ·intro k hk hbef
  have hle:at_+k<=b.length:=by
   cases k with
   | zero=>omega
   | succ k =>
    have:=hbef k (by omega);unfold b_g at this
    by_cases h:at_+k<b.length
    ·omega
    ·rw [gN_ (by omega)] at this;cases this
  rw [ia_ (x:=(at_:Int)) (by omega) (by omega),show (at_:Int)+k=((at_+k:Nat):Int) by omega,ix_ hk]
  by_cases h:at_+k<b.length
  ·rw [bd_some,show (((at_+k:Nat):Int)==(b.length:Int))=false by simp;omega,ix_ h,show b_g b r.bytes at_ k=(byteI b[at_+k] != byteI r.bytes[k]) by unfold b_g;rw [gG_ h,a_m hk]]
   rw [iN_ (show ¬b.length<=at_+k by omega)]
   simp only [bd_some,bF_,fF_]
   exact c_C _ _
  ·rw [bd_some,show (((at_+k:Nat):Int)==(b.length:Int))=true by simp;omega,show b_g b r.bytes at_ k=true by unfold b_g;rw [gN_ (by omega)]]
   rw [iP_ (show b.length<=at_+k by omega)]
   rfl
theorem m_C (ha:at_<=b.length)(bs:List UInt8):at_<=(c_2 b bs at_).1/\(c_2 b bs at_).1<=b.length:=by
 unfold c_2
 cases hf:(List.range bs.length).find? (b_g b bs at_) with
 | none =>
  simp only
  refine ⟨by omega,?_⟩
  cases hl:bs.length with
  | zero=>omega
  | succ m =>
   have:=List.find?_eq_none.1 hf m<|List.mem_range.2 (by omega);unfold b_g at this
   by_cases h:at_+m<b.length
   ·omega
   ·rw [gN_ (by omega)] at this;simp at this
 | some k =>
  simp only
  split
  ·exact ⟨Nat.le_refl _,ha⟩
  ·exact ⟨by omega,by omega⟩
def c_3 (b:List UInt8)(at_:Nat)(n:Int):Val×Nat×Int:=if (b.length:Int) - at_<n then (zV,at_,1) else (⟨0,b_l b at_<|at_+n.toNat,[]⟩,at_+n.toNat,0)
theorem j_Z {n:Int}(hb:b.length<=MX)(ha:at_<=b.length)(G:0<=n)(hn:n<4294967296):e_s b at_ n=some ((c_3 b at_ n).1,((c_3 b at_ n).2.1:Int),(c_3 b at_ n).2.2):=by
 have hMX:=MXv;unfold e_s c_3
 rw [a_y (x:=(b.length:Int)) (by omega) (by omega),ia_ (x:=(at_:Int)) (by omega) (by omega)]
 by_cases h:(b.length:Int) - at_<n
 ·rw [dT_ h,iP_ rfl,iP_ h]
 ·rw [dF_ h,iN_ (by simp),iN_ h,show (at_:Int)+n=((at_+n.toNat:Nat):Int) by omega,e_d (by omega) (by omega),bd_some,c_p (by rw [e_e (by omega)];simp [a_v];omega)]
  simp
end
def a_w (ts:List Int)(n:Int):Option Nat:=(List.range ts.length).find? (fun k=>ts.getD k 0==n)
def a_c (r:g_)(num:Int)(i:Nat):Int :=
 if r.kind==5 then r.kids.getD 1 0
 else if r.kind==6 then (if i<r.kids.length then r.kids.getD i 0 else -1)
 else if r.kind==7 then (match a_w r.tags num with | some k=>r.kids.getD (k+1) 0 | none=>-1)
 else if r.kind==8 then r.kids.getD 0 0
 else if r.kind==9 then r.kids.getD 0 0
 else -1
structure g_Q (r:g_):Prop where
 arr:r.kind=5->r.kids.length=2
 cho:r.kind=7->r.kids.length=r.tags.length+1
 opt:r.kind=8->r.kids.length=1
 chk:r.kind=9->r.kids.length=1
theorem m_D {r:g_}{num:Int}(h:r.kids.length=r.tags.length+1):y_ (σ:=Unit) (ρ:=Int) (fun G=>(fun (_:Unit)=>bd (idx r.tags ((G:Nat):Int)) fun H=>if (H==num)=true then bd (idx r.kids ((G+1:Nat):Int)) fun I=>some (.ret I) else some (.next ()))) r.tags.length 0 ()=some (match a_w r.tags num with | some k=>.inr (r.kids.getD (k+1) 0) | none=>.inl ()):=by
 unfold a_w
 rw [f_k (fun k=>r.tags.getD k 0==num) (fun k=>r.kids.getD (k+1) 0)]
 ·cases (List.range r.tags.length).find? (fun k=>r.tags.getD k 0==num) <;> rfl
 ·intro k hk _
  rw [ix_ hk,bd_some,a_m hk,ix_ (show k+1<r.kids.length by omega),bd_some,a_m (show k+1<r.kids.length by omega)]
  by_cases h:r.tags[k]=num
  ·rw [show (r.tags[k]==num)=true by simpa using h];rfl
  ·rw [show (r.tags[k]==num)=false by simpa using h];rfl
theorem d_0 {r:g_}(h:g_Q r)(num:Int)(i:Nat):b_z r num i=some (a_c r num i):=by
 unfold b_z a_c
 by_cases h5:r.kind=5
 ·rw [h5];simp only [bQ_,fT_]
  rw [h_2 (by have:=h.arr h5;omega),a_m (by have:=h.arr h5;omega)];rfl
 ·rw [show (r.kind==5)=false by simpa using h5]
  simp only [bF_,fF_]
  by_cases h6:r.kind=6
  ·rw [h6];simp only [bQ_,fT_]
   by_cases hi:i<r.kids.length
   ·rw [dT_ (by omega),ix_ hi,a_m hi,iP_ rfl,iP_ hi];rfl
   ·rw [dF_ (by omega),iN_ (by simp),iN_ hi];rfl
  ·rw [show (r.kind==6)=false by simpa using h6]
   simp only [bF_,fF_]
   by_cases I:r.kind=7
   ·rw [I];simp only [bQ_,fT_]
    rw [m_D (h.cho I)]
    cases a_w r.tags num <;> rfl
   ·rw [show (r.kind==7)=false by simpa using I]
    simp only [bF_,fF_]
    by_cases G:r.kind=8
    ·rw [G];simp only [bQ_,fT_,bd_some]
     rw [b_o (by have:=h.opt G;omega),a_m (by have:=h.opt G;omega)];rfl
    ·rw [show (r.kind==8)=false by simpa using G]
     simp only [bF_,fF_]
     by_cases H:r.kind=9
     ·rw [H];simp only [bQ_,fT_,bd_some]
      rw [b_o (by have:=h.chk H;omega),a_m (by have:=h.chk H;omega)];rfl
     ·rw [show (r.kind==9)=false by simpa using H];rfl
end Go.Vw
