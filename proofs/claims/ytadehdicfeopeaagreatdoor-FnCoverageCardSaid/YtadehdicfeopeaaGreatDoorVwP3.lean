
import Derived.Test.YtadehdicfeopeaaGreatDoorVwP2
namespace Go.Vw
open Go.RowKit Dat
abbrev zV:Val:=⟨0,([]:List UInt8),([]:List Val)⟩
theorem a_p:LIM=4294967296:=rfl
theorem MXv:MX=1048576:=rfl
def a_E (b:List UInt8)(p q:Nat):List UInt8:=(b.take q).drop p
theorem d_i {b:List UInt8}{p q:Nat}(h1:p<=q)(h2:q<=b.length):slc b (p:Int) (q:Int)=some (a_E b p q):=by
 rw [g_i (by omega) (by omega) (by omega)];rfl
theorem d_G {b:List UInt8}{p q:Nat}(h2:q<=b.length):(a_E b p q).length=q - p:=by
 unfold a_E;simp;omega
def a_b (b:List UInt8)(r:e_)(at_:Nat):Option Int:=if (b.length:Int) - at_<r.size then none else some (d_F (a_E b at_<|at_+r.size.toNat) r.little)
def e_V (r:e_):Prop:=r.kind=1/\1<=r.size/\r.size<=4
theorem b_P {b:List UInt8}{r:e_}{at_:Nat}{n:Int}(hr:e_V r)(h:a_b b r at_=some n):0<=n/\n<4294967296/\at_+r.size.toNat<=b.length:=by
 unfold a_b at h
 split at h
 ·cases h
 ·obtain ⟨_,h1,h4⟩:=hr
  cases Option.some.inj h
  have:=p_s (a_E b at_<|at_+r.size.toNat) r.little (by rw [d_G (by omega)];omega);exact ⟨this.1,this.2,by omega⟩
section
variable {d:d_}{b:List UInt8}{r:e_}{k:Int}{at_:Nat}
theorem g_2 (hk:idx d.rules k=some r)(hr:e_V r)(hb:b.length<=MX)(ha:at_<=b.length) :
  c_b d k b at_=some (match a_b b r at_ with | none=>(0,(at_:Int),false) | some n=>(n,((at_+r.size.toNat:Nat):Int),true)):=by
 have hMX:=MXv;obtain ⟨_,h1,h4⟩:=hr;unfold c_b a_b
 rw [hk,bd_some,a_L (x:=(b.length:Int)) (by omega) (by omega),ia_ (x:=(at_:Int)) (by omega) (by omega)]
 by_cases h:(b.length:Int) - at_<r.size
 ·rw [dT_ h,iP_ rfl,iP_ h]
 ·rw [dF_ h,iN_ (by simp),iN_ h,show (at_:Int)+r.size=((at_+r.size.toNat:Nat):Int) by omega,d_i (by omega) (by omega),bd_some,p_t _ _ (by rw [d_G (by omega)];omega)]
  rfl
theorem i_s {n:Int}(hb:b.length<=MX)(ha:at_<=b.length)(G:0<=n)(hn:n<4294967296) :
  d_S ⟨d,b⟩ at_ n=some (if (b.length:Int) - at_<n then ([],some ((at_:Int),1)) else (a_E b at_<|at_+n.toNat,none)):=by
 have hMX:=MXv;unfold d_S b_J
 simp only
 rw [a_L (x:=(b.length:Int)) (by omega) (by omega),ia_ (x:=(at_:Int)) (by omega) (by omega)]
 by_cases h:(b.length:Int) - at_<n
 ·rw [dT_ h,iP_ rfl,iP_ h];rfl
 ·rw [dF_ h,iN_ (by simp),iN_ h,show (at_:Int)+n=((at_+n.toNat:Nat):Int) by omega,d_i (by omega) (by omega)];rfl
theorem i_t (hk:idx d.rules k=some r)(hr:e_V r)(hb:b.length<=MX)(ha:at_<=b.length) :
  d_T ⟨d,b⟩ k at_=some (match a_b b r at_ with | none=>(0,(at_:Int),some ((at_:Int),1)) | some n=>(n,((at_+r.size.toNat:Nat):Int),none)):=by
 have hMX:=MXv;obtain ⟨_,h1,h4⟩:=hr;unfold d_T a_b
 simp only
 rw [hk,bd_some,i_s hb ha (by omega) (by omega)]
 by_cases h:(b.length:Int) - at_<r.size
 ·rw [iP_ h,iP_ h];rfl
 ·rw [iN_ h,iN_ h]
  simp only [bd2_some]
  rw [l_D _ _ (by rw [d_G (by omega)];omega),ia_ (by omega) (by omega),show (at_:Int)+r.size=((at_+r.size.toNat:Nat):Int) by omega]
  rfl
theorem g_6 {ap n:Int}(hb:b.length<=MX)(ha:at_<=b.length)(G:0<=n)(hn:n<4294967296) :
  d_q ⟨d,b,ap⟩ at_ n=some (if (b.length:Int) - at_<n then ⟨(at_:Int),1⟩ else ⟨((at_+n.toNat:Nat):Int),0⟩):=by
 have hMX:=MXv;unfold d_q
 simp only
 rw [a_L (x:=(b.length:Int)) (by omega) (by omega),ia_ (x:=(at_:Int)) (by omega) (by omega)]
 by_cases h:(b.length:Int) - at_<n
 ·rw [dT_ h,iP_ rfl,iP_ h]
 ·rw [dF_ h,iN_ (by simp),iN_ h,show (at_:Int)+n=((at_+n.toNat:Nat):Int) by omega]
theorem i_u {ap:Int}(hk:idx d.rules k=some r)(hr:e_V r)(hb:b.length<=MX)(ha:at_<=b.length) :
  d_R ⟨d,b,ap⟩ k at_=some (match a_b b r at_ with | none=>(0,⟨(at_:Int),1⟩,g_ ap 1) | some n=>(n,⟨((at_+r.size.toNat:Nat):Int),0⟩,g_ ap 1)):=by
 have hMX:=MXv;obtain ⟨_,h1,h4⟩:=hr;unfold d_R a_b
 simp only
 rw [hk,bd_some,g_6 hb ha (by omega) (by omega)]
 by_cases h:(b.length:Int) - at_<r.size
 ·rw [iP_ h,iP_ h];rfl
 ·rw [iN_ h,iN_ h]
  simp only [bd_some]
  rw [d_i (by omega) (by omega),bd_some,l_D _ _ (by rw [d_G (by omega)];omega)]
  rfl
def b_0 (b bs:List UInt8)(at_ k:Nat):Bool:=match b[at_+k]? with
 | none=>true
 | some c=>byteI c != byteI (bs.getD k 0)
def b_9 (b bs:List UInt8)(at_:Nat):Nat×Int:=match (List.range bs.length).find? (b_0 b bs at_) with
 | none=>(at_+bs.length,0)
 | some k=>if b.length<=at_+k then (at_,1) else (at_+k,2)
theorem p_v (hb:b.length<=MX)(ha:at_<=b.length)(hr:r.bytes.length<=MX):g_z r b at_=some (zV,((b_9 b r.bytes at_).1:Int),(b_9 b r.bytes at_).2):=by
 have hMX:=MXv;unfold g_z b_9
 rw [g_j (b_0 b r.bytes at_) (fun k=>if b.length<=at_+k then (zV,(at_:Int),(1:Int)) else (zV,((at_+k:Nat):Int),2))]
 ·rw [ia_ (x:=(at_:Int)) (by omega) (by omega)]
  cases (List.range r.bytes.length).find? (b_0 b r.bytes at_) with
  | none=>simp only [bd_some,el_inl];congr 3
  | some k =>
   simp only [bd_some,el_inr]
   split <;> rfl
 ·intro k hk _
  rw [ia_ (x:=(at_:Int)) (by omega) (by omega),show (at_:Int)+k=((at_+k:Nat):Int) by omega,ix_ hk]
  by_cases h:at_+k<b.length
  ·rw [dF_ (by omega),ix_ h,show b_0 b r.bytes at_ k=(byteI b[at_+k] != byteI r.bytes[k]) by unfold b_0;rw [gG_ h,a_a hk]]
   rw [iN_ (show ¬b.length<=at_+k by omega)]
   simp only [bd_some,bF_,fF_]
   exact c_Q _ _
  ·rw [dT_ (by omega),show b_0 b r.bytes at_ k=true by unfold b_0;rw [gN_ (by omega)]]
   rw [iP_ (show b.length<=at_+k by omega)]
   rfl
theorem p_w (hb:b.length<=MX)(ha:at_<=b.length)(hr:r.bytes.length<=MX):g_U ⟨d,b⟩ r at_=some (if (b_9 b r.bytes at_).2=0 then (((b_9 b r.bytes at_).1:Int),none) else ((at_:Int),some (((b_9 b r.bytes at_).1:Int),(b_9 b r.bytes at_).2))):=by
 have hMX:=MXv;unfold g_U b_9 b_J
 simp only
 rw [g_j (b_0 b r.bytes at_) (fun k=>if b.length<=at_+k then ((at_:Int),some ((at_:Int),(1:Int))) else ((at_:Int),some (((at_+k:Nat):Int),2)))]
 ·rw [ia_ (x:=(at_:Int)) (by omega) (by omega)]
  cases (List.range r.bytes.length).find? (b_0 b r.bytes at_) with
  | none=>rfl
  | some k =>
   simp only [bd_some,el_inr]
   by_cases h:b.length<=at_+k
   ·rw [iP_ h,iP_ h];rfl
   ·rw [iN_ h,iN_ h];rfl
 ·intro k hk _
  rw [ia_ (x:=(at_:Int)) (by omega) (by omega),show (at_:Int)+k=((at_+k:Nat):Int) by omega,ix_ hk]
  by_cases h:at_+k<b.length
  ·rw [bd_some,dF_ (by omega),ix_ h,show b_0 b r.bytes at_ k=(byteI b[at_+k] != byteI r.bytes[k]) by unfold b_0;rw [gG_ h,a_a hk]]
   rw [iN_ (show ¬b.length<=at_+k by omega)]
   simp only [bd_some,bF_,fF_]
   exact c_Q _ _
  ·rw [bd_some,dT_ (by omega),show b_0 b r.bytes at_ k=true by unfold b_0;rw [gN_ (by omega)]]
   rw [iP_ (show b.length<=at_+k by omega)]
   rfl
theorem p_x {ap:Int}(hb:b.length<=MX)(ha:at_<=b.length)(hr:r.bytes.length<=MX):g_N ⟨d,b,ap⟩ r at_=some ⟨((b_9 b r.bytes at_).1:Int),(b_9 b r.bytes at_).2⟩:=by
 have hMX:=MXv;unfold g_N b_9
 simp only
 rw [g_j (b_0 b r.bytes at_) (fun k=>if b.length<=at_+k then (⟨(at_:Int),1⟩:S_) else ⟨((at_+k:Nat):Int),2⟩)]
 ·rw [ia_ (x:=(at_:Int)) (by omega) (by omega)]
  cases (List.range r.bytes.length).find? (b_0 b r.bytes at_) with
  | none=>rfl
  | some k =>
   simp only [bd_some,el_inr]
   by_cases h:b.length<=at_+k
   ·rw [iP_ h,iP_ h]
   ·rw [iN_ h,iN_ h]
 ·intro k hk hbef
  have hle:at_+k<=b.length:=by
   cases k with
   | zero=>omega
   | succ k =>
    have:=hbef k (by omega);unfold b_0 at this
    by_cases h:at_+k<b.length
    ·omega
    ·rw [gN_ (by omega)] at this;cases this
  rw [ia_ (x:=(at_:Int)) (by omega) (by omega),show (at_:Int)+k=((at_+k:Nat):Int) by omega,ix_ hk]
  by_cases h:at_+k<b.length
  ·rw [bd_some,show (((at_+k:Nat):Int)==(b.length:Int))=false by simp;omega,ix_ h,show b_0 b r.bytes at_ k=(byteI b[at_+k] != byteI r.bytes[k]) by unfold b_0;rw [gG_ h,a_a hk]]
   rw [iN_ (show ¬b.length<=at_+k by omega)]
   simp only [bd_some,bF_,fF_]
   exact c_Q _ _
  ·rw [bd_some,show (((at_+k:Nat):Int)==(b.length:Int))=true by simp;omega,show b_0 b r.bytes at_ k=true by unfold b_0;rw [gN_ (by omega)]]
   rw [iP_ (show b.length<=at_+k by omega)]
   rfl
theorem p_y (ha:at_<=b.length)(bs:List UInt8):at_<=(b_9 b bs at_).1/\(b_9 b bs at_).1<=b.length:=by
 unfold b_9
 cases hf:(List.range bs.length).find? (b_0 b bs at_) with
 | none =>
  simp only
  refine ⟨by omega,?_⟩
  cases hl:bs.length with
  | zero=>omega
  | succ m =>
   have:=List.find?_eq_none.1 hf m<|List.mem_range.2 (by omega);unfold b_0 at this
   by_cases h:at_+m<b.length
   ·omega
   ·rw [gN_ (by omega)] at this;simp at this
 | some k =>
  simp only
  split
  ·exact ⟨Nat.le_refl _,ha⟩
  ·exact ⟨by omega,by omega⟩
theorem p_z {bs:List UInt8}(h:(b_9 b bs at_).2=0):(b_9 b bs at_).1=at_+bs.length:=by
 unfold b_9 at *
 cases hf:(List.range bs.length).find? (b_0 b bs at_) with
 | none=>rfl
 | some k =>
  rw [hf] at h
  simp only at h
  split at h <;> cases h
def a_I (b:List UInt8)(at_:Nat)(n:Int):Val×Nat×Int:=if (b.length:Int) - at_<n then (zV,at_,1) else (⟨0,a_E b at_<|at_+n.toNat,[]⟩,at_+n.toNat,0)
theorem l_I {n:Int}(hb:b.length<=MX)(ha:at_<=b.length)(G:0<=n)(hn:n<4294967296):f_2 b at_ n=some ((a_I b at_ n).1,((a_I b at_ n).2.1:Int),(a_I b at_ n).2.2):=by
 have hMX:=MXv;unfold f_2 a_I
 rw [a_L (x:=(b.length:Int)) (by omega) (by omega),ia_ (x:=(at_:Int)) (by omega) (by omega)]
 by_cases h:(b.length:Int) - at_<n
 ·rw [dT_ h,iP_ rfl,iP_ h]
 ·rw [dF_ h,iN_ (by simp),iN_ h,show (at_:Int)+n=((at_+n.toNat:Nat):Int) by omega,d_i (by omega) (by omega),bd_some,c_W (by rw [d_G (by omega)];simp [a_p];omega)]
  simp
theorem l_J {n:Int}(hb:b.length<=MX)(ha:at_<=b.length)(G:0<=n)(hn:n<4294967296):f_a ⟨d,b⟩ at_ n=some (if (a_I b at_ n).2.2=0 then ((a_I b at_ n).1,((a_I b at_ n).2.1:Int),none) else (zV,(at_:Int),some (((a_I b at_ n).2.1:Int),(a_I b at_ n).2.2))):=by
 have hMX:=MXv;unfold f_a a_I
 rw [i_s hb ha G hn]
 by_cases h:(b.length:Int) - at_<n
 ·rw [iP_ h,iP_ h];rfl
 ·rw [iN_ h,iN_ h]
  simp only [bd2_some]
  rw [c_W (by rw [d_G (by omega)];simp [a_p];omega),ia_ (x:=(at_:Int)) (by omega) (by omega),show (at_:Int)+n=((at_+n.toNat:Nat):Int) by omega]
  rfl
end
def a_W (ts:List Int)(n:Int):Option Nat:=(List.range ts.length).find? (fun k=>ts.getD k 0==n)
def a_4 (r:e_)(num:Int)(i:Nat):Int :=
 if r.kind==5 then r.kids.getD 1 0
 else if r.kind==6 then (if i<r.kids.length then r.kids.getD i 0 else -1)
 else if r.kind==7 then (match a_W r.tags num with | some k=>r.kids.getD (k+1) 0 | none=>-1)
 else if r.kind==8 then r.kids.getD 0 0
 else if r.kind==9 then r.kids.getD 0 0
 else -1
structure g_7 (r:e_):Prop where
 arr:r.kind=5->r.kids.length=2
 cho:r.kind=7->r.kids.length=r.tags.length+1
 opt:r.kind=8->r.kids.length=1
 chk:r.kind=9->r.kids.length=1
theorem p_A {r:e_}{num:Int}(h:r.kids.length=r.tags.length+1):x_ (σ:=Unit) (ρ:=Int) (fun G=>(fun (_:Unit)=>bd (idx r.tags ((G:Nat):Int)) fun H=>if (H==num)=true then bd (idx r.kids ((G+1:Nat):Int)) fun I=>some (.ret I) else some (.next ()))) r.tags.length 0 ()=some (match a_W r.tags num with | some k=>.inr (r.kids.getD (k+1) 0) | none=>.inl ()):=by
 unfold a_W
 rw [g_j (fun k=>r.tags.getD k 0==num) (fun k=>r.kids.getD (k+1) 0)]
 ·cases (List.range r.tags.length).find? (fun k=>r.tags.getD k 0==num) <;> rfl
 ·intro k hk _
  rw [ix_ hk,bd_some,a_a hk,ix_ (show k+1<r.kids.length by omega),bd_some,a_a (show k+1<r.kids.length by omega)]
  by_cases h:r.tags[k]=num
  ·rw [show (r.tags[k]==num)=true by simpa using h];rfl
  ·rw [show (r.tags[k]==num)=false by simpa using h];rfl
theorem d_j {r:e_}(h:g_7 r)(num:Int)(i:Nat):b_l r num i=some (a_4 r num i):=by
 unfold b_l a_4
 by_cases h5:r.kind=5
 ·rw [h5];simp only [bQ_,fT_]
  rw [g_h (by have:=h.arr h5;omega),a_a (by have:=h.arr h5;omega)];rfl
 ·rw [show (r.kind==5)=false by simpa using h5]
  simp only [bF_,fF_]
  by_cases h6:r.kind=6
  ·rw [h6];simp only [bQ_,fT_]
   by_cases hi:i<r.kids.length
   ·rw [dT_ (by omega),ix_ hi,a_a hi,iP_ rfl,iP_ hi];rfl
   ·rw [dF_ (by omega),iN_ (by simp),iN_ hi];rfl
  ·rw [show (r.kind==6)=false by simpa using h6]
   simp only [bF_,fF_]
   by_cases I:r.kind=7
   ·rw [I];simp only [bQ_,fT_]
    rw [p_A (h.cho I)]
    cases a_W r.tags num <;> rfl
   ·rw [show (r.kind==7)=false by simpa using I]
    simp only [bF_,fF_]
    by_cases G:r.kind=8
    ·rw [G];simp only [bQ_,fT_,bd_some]
     rw [b_b (by have:=h.opt G;omega),a_a (by have:=h.opt G;omega)];rfl
    ·rw [show (r.kind==8)=false by simpa using G]
     simp only [bF_,fF_]
     by_cases H:r.kind=9
     ·rw [H];simp only [bQ_,fT_,bd_some]
      rw [b_b (by have:=h.chk H;omega),a_a (by have:=h.chk H;omega)];rfl
     ·rw [show (r.kind==9)=false by simpa using H];rfl
theorem p_B {d:d_}{k:Int}{r:e_}(hk:idx d.rules k=some r)(h:g_7 r)(v:Val)(i:Nat):e_w d k v i=some (a_4 r v.number i):=by
 rw [← d_j h v.number i]
 unfold e_w b_l
 rw [hk];rfl
end Go.Vw
