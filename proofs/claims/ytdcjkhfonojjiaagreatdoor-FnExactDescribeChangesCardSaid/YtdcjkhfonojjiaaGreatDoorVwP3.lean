
import Derived.Test.YtdcjkhfonojjiaaGreatDoorVwP2
namespace Go.Vw
open Go.RowKit Dat
abbrev zV:Val:=⟨0,([]:List UInt8),([]:List Val)⟩
theorem a_D:LIM=4294967296:=rfl
theorem MXv:MX=1048576:=rfl
def a_2 (b:List UInt8)(p q:Nat):List UInt8:=(b.take q).drop p
theorem d_b {b:List UInt8}{p q:Nat}(h1:p<=q)(h2:q<=b.length):slc b (p:Int) (q:Int)=some (a_2 b p q):=by
 rw [g_j (by omega) (by omega) (by omega)];rfl
theorem d_c {b:List UInt8}{p q:Nat}(h2:q<=b.length):(a_2 b p q).length=q - p:=by
 unfold a_2;simp;omega
def a_7 (b:List UInt8)(r:e_)(at_:Nat):Option Int:=if (b.length:Int) - at_<r.size then none else some (d_a (a_2 b at_<|at_+r.size.toNat) r.little)
def e_m (r:e_):Prop:=r.kind=1/\1<=r.size/\r.size<=4
theorem c_g {b:List UInt8}{r:e_}{at_:Nat}{n:Int}(hr:e_m r)(h:a_7 b r at_=some n):0<=n/\n<4294967296/\at_+r.size.toNat<=b.length:=by
 unfold a_7 at h
 split at h
 ·cases h
 ·obtain ⟨_,h1,h4⟩:=hr
  cases Option.some.inj h
  have:=p_P (a_2 b at_<|at_+r.size.toNat) r.little (by rw [d_c (by omega)];omega);exact ⟨this.1,this.2,by omega⟩
section
variable {d:d_}{b:List UInt8}{r:e_}{k:Int}{at_:Nat}
theorem i_6 (hk:idx d.rules k=some r)(hr:e_m r)(hb:b.length<=MX)(ha:at_<=b.length) :
  d_W d k b at_=some (match a_7 b r at_ with | none=>(0,(at_:Int),false) | some n=>(n,((at_+r.size.toNat:Nat):Int),true)):=by
 have hMX:=MXv;obtain ⟨_,h1,h4⟩:=hr;unfold d_W a_7
 rw [hk,bd_some,b_q (x:=(b.length:Int)) (by omega) (by omega),ia_ (x:=(at_:Int)) (by omega) (by omega)]
 by_cases h:(b.length:Int) - at_<r.size
 ·rw [dT_ h,iP_ rfl,iP_ h]
 ·rw [dF_ h,iN_ (by simp),iN_ h,show (at_:Int)+r.size=((at_+r.size.toNat:Nat):Int) by omega,d_b (by omega) (by omega),bd_some,p_Q _ _ (by rw [d_c (by omega)];omega)]
  rfl
theorem i_7 {n:Int}(hb:b.length<=MX)(ha:at_<=b.length)(G:0<=n)(hn:n<4294967296) :
  e_2 ⟨d,b⟩ at_ n=some (if (b.length:Int) - at_<n then ([],some ((at_:Int),1)) else (a_2 b at_<|at_+n.toNat,none)):=by
 have hMX:=MXv;unfold e_2 b_C
 simp only
 rw [b_q (x:=(b.length:Int)) (by omega) (by omega),ia_ (x:=(at_:Int)) (by omega) (by omega)]
 by_cases h:(b.length:Int) - at_<n
 ·rw [dT_ h,iP_ rfl,iP_ h];rfl
 ·rw [dF_ h,iN_ (by simp),iN_ h,show (at_:Int)+n=((at_+n.toNat:Nat):Int) by omega,d_b (by omega) (by omega)];rfl
theorem i_8 (hk:idx d.rules k=some r)(hr:e_m r)(hb:b.length<=MX)(ha:at_<=b.length) :
  e_3 ⟨d,b⟩ k at_=some (match a_7 b r at_ with | none=>(0,(at_:Int),some ((at_:Int),1)) | some n=>(n,((at_+r.size.toNat:Nat):Int),none)):=by
 have hMX:=MXv;obtain ⟨_,h1,h4⟩:=hr;unfold e_3 a_7
 simp only
 rw [hk,bd_some,i_7 hb ha (by omega) (by omega)]
 by_cases h:(b.length:Int) - at_<r.size
 ·rw [iP_ h,iP_ h];rfl
 ·rw [iN_ h,iN_ h]
  simp only [bd2_some]
  rw [p_R _ _ (by rw [d_c (by omega)];omega),ia_ (by omega) (by omega),show (at_:Int)+r.size=((at_+r.size.toNat:Nat):Int) by omega]
  rfl
def b_A (b bs:List UInt8)(at_ k:Nat):Bool:=match b[at_+k]? with
 | none=>true
 | some c=>byteI c != byteI (bs.getD k 0)
def b_e (b bs:List UInt8)(at_:Nat):Nat×Int:=match (List.range bs.length).find? (b_A b bs at_) with
 | none=>(at_+bs.length,0)
 | some k=>if b.length<=at_+k then (at_,1) else (at_+k,2)
theorem p_X (hb:b.length<=MX)(ha:at_<=b.length)(hr:r.bytes.length<=MX):g_D r b at_=some (zV,((b_e b r.bytes at_).1:Int),(b_e b r.bytes at_).2):=by
 have hMX:=MXv;unfold g_D b_e
 rw [i_w (b_A b r.bytes at_) (fun k=>if b.length<=at_+k then (zV,(at_:Int),(1:Int)) else (zV,((at_+k:Nat):Int),2))]
 ·rw [ia_ (x:=(at_:Int)) (by omega) (by omega)]
  cases (List.range r.bytes.length).find? (b_A b r.bytes at_) with
  | none=>simp only [bd_some,el_inl];congr 3
  | some k =>
   simp only [bd_some,el_inr]
   split <;> rfl
 ·intro k hk _
  rw [ia_ (x:=(at_:Int)) (by omega) (by omega),show (at_:Int)+k=((at_+k:Nat):Int) by omega,ix_ hk]
  by_cases h:at_+k<b.length
  ·rw [dF_ (by omega),ix_ h,show b_A b r.bytes at_ k=(byteI b[at_+k] != byteI r.bytes[k]) by unfold b_A;rw [gG_ h,a_g hk]]
   rw [iN_ (show ¬b.length<=at_+k by omega)]
   simp only [bd_some,bF_,fF_]
   exact d_2 _ _
  ·rw [dT_ (by omega),show b_A b r.bytes at_ k=true by unfold b_A;rw [gN_ (by omega)]]
   rw [iP_ (show b.length<=at_+k by omega)]
   rfl
theorem p_Y (hb:b.length<=MX)(ha:at_<=b.length)(hr:r.bytes.length<=MX):g_W ⟨d,b⟩ r at_=some (if (b_e b r.bytes at_).2=0 then (((b_e b r.bytes at_).1:Int),none) else ((at_:Int),some (((b_e b r.bytes at_).1:Int),(b_e b r.bytes at_).2))):=by
 have hMX:=MXv;unfold g_W b_e b_C
 simp only
 rw [i_w (b_A b r.bytes at_) (fun k=>if b.length<=at_+k then ((at_:Int),some ((at_:Int),(1:Int))) else ((at_:Int),some (((at_+k:Nat):Int),2)))]
 ·rw [ia_ (x:=(at_:Int)) (by omega) (by omega)]
  cases (List.range r.bytes.length).find? (b_A b r.bytes at_) with
  | none=>rfl
  | some k =>
   simp only [bd_some,el_inr]
   by_cases h:b.length<=at_+k
   ·rw [iP_ h,iP_ h];rfl
   ·rw [iN_ h,iN_ h];rfl
 ·intro k hk _
  rw [ia_ (x:=(at_:Int)) (by omega) (by omega),show (at_:Int)+k=((at_+k:Nat):Int) by omega,ix_ hk]
  by_cases h:at_+k<b.length
  ·rw [bd_some,dF_ (by omega),ix_ h,show b_A b r.bytes at_ k=(byteI b[at_+k] != byteI r.bytes[k]) by unfold b_A;rw [gG_ h,a_g hk]]
   rw [iN_ (show ¬b.length<=at_+k by omega)]
   simp only [bd_some,bF_,fF_]
   exact d_2 _ _
  ·rw [bd_some,dT_ (by omega),show b_A b r.bytes at_ k=true by unfold b_A;rw [gN_ (by omega)]]
   rw [iP_ (show b.length<=at_+k by omega)]
   rfl
theorem p_Z (ha:at_<=b.length)(bs:List UInt8):at_<=(b_e b bs at_).1/\(b_e b bs at_).1<=b.length:=by
 unfold b_e
 cases hf:(List.range bs.length).find? (b_A b bs at_) with
 | none =>
  simp only
  refine ⟨by omega,?_⟩
  cases hl:bs.length with
  | zero=>omega
  | succ m =>
   have:=List.find?_eq_none.1 hf m<|List.mem_range.2 (by omega);unfold b_A at this
   by_cases h:at_+m<b.length
   ·omega
   ·rw [gN_ (by omega)] at this;simp at this
 | some k =>
  simp only
  split
  ·exact ⟨Nat.le_refl _,ha⟩
  ·exact ⟨by omega,by omega⟩
theorem q_0 {bs:List UInt8}(h:(b_e b bs at_).2=0):(b_e b bs at_).1=at_+bs.length:=by
 unfold b_e at *
 cases hf:(List.range bs.length).find? (b_A b bs at_) with
 | none=>rfl
 | some k =>
  rw [hf] at h
  simp only at h
  split at h <;> cases h
def a_r (b:List UInt8)(at_:Nat)(n:Int):Val×Nat×Int:=if (b.length:Int) - at_<n then (zV,at_,1) else (⟨0,a_2 b at_<|at_+n.toNat,[]⟩,at_+n.toNat,0)
theorem m_b {n:Int}(hb:b.length<=MX)(ha:at_<=b.length)(G:0<=n)(hn:n<4294967296):f_u b at_ n=some ((a_r b at_ n).1,((a_r b at_ n).2.1:Int),(a_r b at_ n).2.2):=by
 have hMX:=MXv;unfold f_u a_r
 rw [b_q (x:=(b.length:Int)) (by omega) (by omega),ia_ (x:=(at_:Int)) (by omega) (by omega)]
 by_cases h:(b.length:Int) - at_<n
 ·rw [dT_ h,iP_ rfl,iP_ h]
 ·rw [dF_ h,iN_ (by simp),iN_ h,show (at_:Int)+n=((at_+n.toNat:Nat):Int) by omega,d_b (by omega) (by omega),bd_some,d_T (by rw [d_c (by omega)];simp [a_D];omega)]
  simp
theorem m_c {n:Int}(hb:b.length<=MX)(ha:at_<=b.length)(G:0<=n)(hn:n<4294967296):f_z ⟨d,b⟩ at_ n=some (if (a_r b at_ n).2.2=0 then ((a_r b at_ n).1,((a_r b at_ n).2.1:Int),none) else (zV,(at_:Int),some (((a_r b at_ n).2.1:Int),(a_r b at_ n).2.2))):=by
 have hMX:=MXv;unfold f_z a_r
 rw [i_7 hb ha G hn]
 by_cases h:(b.length:Int) - at_<n
 ·rw [iP_ h,iP_ h];rfl
 ·rw [iN_ h,iN_ h]
  simp only [bd2_some]
  rw [d_T (by rw [d_c (by omega)];simp [a_D];omega),ia_ (x:=(at_:Int)) (by omega) (by omega),show (at_:Int)+n=((at_+n.toNat:Nat):Int) by omega]
  rfl
end
def b_7 (ts:List Int)(n:Int):Option Nat:=(List.range ts.length).find? (fun k=>ts.getD k 0==n)
def a_i (r:e_)(num:Int)(i:Nat):Int :=
 if r.kind==5 then r.kids.getD 1 0
 else if r.kind==6 then (if i<r.kids.length then r.kids.getD i 0 else -1)
 else if r.kind==7 then (match b_7 r.tags num with | some k=>r.kids.getD (k+1) 0 | none=>-1)
 else if r.kind==8 then r.kids.getD 0 0
 else if r.kind==9 then r.kids.getD 0 0
 else -1
structure f_e (r:e_):Prop where
 arr:r.kind=5->r.kids.length=2
 cho:r.kind=7->r.kids.length=r.tags.length+1
 opt:r.kind=8->r.kids.length=1
 chk:r.kind=9->r.kids.length=1
theorem q_1 {r:e_}{num:Int}(h:r.kids.length=r.tags.length+1):r_ (σ:=Unit) (ρ:=Int) (fun G=>(fun (_:Unit)=>bd (idx r.tags ((G:Nat):Int)) fun H=>if (H==num)=true then bd (idx r.kids ((G+1:Nat):Int)) fun I=>some (.ret I) else some (.next ()))) r.tags.length 0 ()=some (match b_7 r.tags num with | some k=>.inr (r.kids.getD (k+1) 0) | none=>.inl ()):=by
 unfold b_7
 rw [i_w (fun k=>r.tags.getD k 0==num) (fun k=>r.kids.getD (k+1) 0)]
 ·cases (List.range r.tags.length).find? (fun k=>r.tags.getD k 0==num) <;> rfl
 ·intro k hk _
  rw [ix_ hk,bd_some,a_g hk,ix_ (show k+1<r.kids.length by omega),bd_some,a_g (show k+1<r.kids.length by omega)]
  by_cases h:r.tags[k]=num
  ·rw [show (r.tags[k]==num)=true by simpa using h];rfl
  ·rw [show (r.tags[k]==num)=false by simpa using h];rfl
theorem c_w {r:e_}(h:f_e r)(num:Int)(i:Nat):a_X r num i=some (a_i r num i):=by
 unfold a_X a_i
 by_cases h5:r.kind=5
 ·rw [h5];simp only [bQ_,fT_]
  rw [n_8 (by have:=h.arr h5;omega),a_g (by have:=h.arr h5;omega)];rfl
 ·rw [show (r.kind==5)=false by simpa using h5]
  simp only [bF_,fF_]
  by_cases h6:r.kind=6
  ·rw [h6];simp only [bQ_,fT_]
   by_cases hi:i<r.kids.length
   ·rw [dT_ (by omega),ix_ hi,a_g hi,iP_ rfl,iP_ hi];rfl
   ·rw [dF_ (by omega),iN_ (by simp),iN_ hi];rfl
  ·rw [show (r.kind==6)=false by simpa using h6]
   simp only [bF_,fF_]
   by_cases I:r.kind=7
   ·rw [I];simp only [bQ_,fT_]
    rw [q_1 (h.cho I)]
    cases b_7 r.tags num <;> rfl
   ·rw [show (r.kind==7)=false by simpa using I]
    simp only [bF_,fF_]
    by_cases G:r.kind=8
    ·rw [G];simp only [bQ_,fT_,bd_some]
     rw [b_r (by have:=h.opt G;omega),a_g (by have:=h.opt G;omega)];rfl
    ·rw [show (r.kind==8)=false by simpa using G]
     simp only [bF_,fF_]
     by_cases H:r.kind=9
     ·rw [H];simp only [bQ_,fT_,bd_some]
      rw [b_r (by have:=h.chk H;omega),a_g (by have:=h.chk H;omega)];rfl
     ·rw [show (r.kind==9)=false by simpa using H];rfl
theorem i_9 {d:d_}{k:Int}{r:e_}(hk:idx d.rules k=some r)(h:f_e r)(v:Val)(i:Nat):c_C d k v i=some (a_i r v.number i):=by
 rw [← c_w h v.number i]
 unfold c_C a_X
 rw [hk];rfl
end Go.Vw
