
import Derived.Test.YtelphaiofendpaaGreatDoorVwP2
namespace Go.Vw
open Go.RowKit Dat
abbrev zV:Val:=⟨0,([]:Bt),([]:List Val)⟩
theorem a_H:LIM=4294967296:=rfl
theorem MXv:MX=1048576:=rfl
def a_h (b:Bt)(p q:Nat):Bt:=(b.take q).drop p
theorem c_O {b:Bt}{p q:Nat}(h1:p<=q)(h2:q<=b.length):slc b (p:Int) (q:Int)=some (a_h b p q):=by
 rw [h_m (by omega) (by omega) (by omega)];rfl
theorem c_P {b:Bt}{p q:Nat}(h2:q<=b.length):(a_h b p q).length=q - p:=by
 unfold a_h;simp;omega
def W_ (b:Bt)(r:g_)(at_:Nat):Option Int:=if (b.length:Int) - at_<r.size then none else some (d_T (a_h b at_<|at_+r.size.toNat) r.little)
def d_V (r:g_):Prop:=r.kind=1/\1<=r.size/\r.size<=4
theorem b_T {b:Bt}{r:g_}{at_:Nat}{n:Int}(hr:d_V r)(h:W_ b r at_=some n):0<=n/\n<4294967296/\at_+r.size.toNat<=b.length:=by
 unfold W_ at h
 split at h
 .cases h
 .obtain ⟨_,h1,h4⟩:=hr
  cases Option.some.inj h
  have:=r_I (a_h b at_<|at_+r.size.toNat) r.little (by rw [c_P (by omega)];omega);exact ⟨this.1,this.2,by omega⟩
section
variable {d:d_}{b:Bt}{r:g_}{k:Int}{at_:Nat}
theorem f_N (hk:idx d.rules k=some r)(hr:d_V r)(hb:b.length<=MX)(ha:at_<=b.length) :
  c_C d k b at_=some (match W_ b r at_ with | none=>(0,(at_:Int),false) | some n=>(n,((at_+r.size.toNat:Nat):Int),true)):=by
 have hMX:=MXv;obtain ⟨_,h1,h4⟩:=hr;unfold c_C W_
 rw [hk,bd_some,b_3 (x:=(b.length:Int)) (by omega) (by omega),ia_ (x:=(at_:Int)) (by omega) (by omega)]
 by_cases h:(b.length:Int) - at_<r.size
 .rw [dT_ h,iP_ rfl,iP_ h]
 .rw [dF_ h,iN_ (by simp),iN_ h,show (at_:Int)+r.size=((at_+r.size.toNat:Nat):Int) by omega,c_O (by omega) (by omega),bd_some,r_J _ _ (by rw [c_P (by omega)];omega)]
  rfl
theorem j_w {n:Int}(hb:b.length<=MX)(ha:at_<=b.length)(G:0<=n)(hn:n<4294967296) :
  e_A ⟨d,b⟩ at_ n=some (if (b.length:Int) - at_<n then ([],some ((at_:Int),1)) else (a_h b at_<|at_+n.toNat,none)):=by
 have hMX:=MXv;unfold e_A c_a
 simp only
 rw [b_3 (x:=(b.length:Int)) (by omega) (by omega),ia_ (x:=(at_:Int)) (by omega) (by omega)]
 by_cases h:(b.length:Int) - at_<n
 .rw [dT_ h,iP_ rfl,iP_ h];rfl
 .rw [dF_ h,iN_ (by simp),iN_ h,show (at_:Int)+n=((at_+n.toNat:Nat):Int) by omega,c_O (by omega) (by omega)];rfl
theorem j_x (hk:idx d.rules k=some r)(hr:d_V r)(hb:b.length<=MX)(ha:at_<=b.length) :
  e_B ⟨d,b⟩ k at_=some (match W_ b r at_ with | none=>(0,(at_:Int),some ((at_:Int),1)) | some n=>(n,((at_+r.size.toNat:Nat):Int),none)):=by
 have hMX:=MXv;obtain ⟨_,h1,h4⟩:=hr;unfold e_B W_
 simp only
 rw [hk,bd_some,j_w hb ha (by omega) (by omega)]
 by_cases h:(b.length:Int) - at_<r.size
 .rw [iP_ h,iP_ h];rfl
 .rw [iN_ h,iN_ h]
  simp only [bd2_some]
  rw [l_f _ _ (by rw [c_P (by omega)];omega),ia_ (by omega) (by omega),show (at_:Int)+r.size=((at_+r.size.toNat:Nat):Int) by omega]
  rfl
theorem h_f {ap n:Int}(hb:b.length<=MX)(ha:at_<=b.length)(G:0<=n)(hn:n<4294967296) :
  e_6 ⟨d,b,ap⟩ at_ n=some (if (b.length:Int) - at_<n then ⟨(at_:Int),1⟩ else ⟨((at_+n.toNat:Nat):Int),0⟩):=by
 have hMX:=MXv;unfold e_6
 simp only
 rw [b_3 (x:=(b.length:Int)) (by omega) (by omega),ia_ (x:=(at_:Int)) (by omega) (by omega)]
 by_cases h:(b.length:Int) - at_<n
 .rw [dT_ h,iP_ rfl,iP_ h]
 .rw [dF_ h,iN_ (by simp),iN_ h,show (at_:Int)+n=((at_+n.toNat:Nat):Int) by omega]
theorem j_y {ap:Int}(hk:idx d.rules k=some r)(hr:d_V r)(hb:b.length<=MX)(ha:at_<=b.length) :
  e_z ⟨d,b,ap⟩ k at_=some (match W_ b r at_ with | none=>(0,⟨(at_:Int),1⟩,i_ ap 1) | some n=>(n,⟨((at_+r.size.toNat:Nat):Int),0⟩,i_ ap 1)):=by
 have hMX:=MXv;obtain ⟨_,h1,h4⟩:=hr;unfold e_z W_
 simp only
 rw [hk,bd_some,h_f hb ha (by omega) (by omega)]
 by_cases h:(b.length:Int) - at_<r.size
 .rw [iP_ h,iP_ h];rfl
 .rw [iN_ h,iN_ h]
  simp only [bd_some]
  rw [c_O (by omega) (by omega),bd_some,l_f _ _ (by rw [c_P (by omega)];omega)]
  rfl
def b_j (b bs:Bt)(at_ k:Nat):Bool:=match b[at_+k]? with
 | none=>true
 | some c=>byteI c != byteI (bs.getD k 0)
def b_l (b bs:Bt)(at_:Nat):Nat×Int:=match (List.range bs.length).find? (b_j b bs at_) with
 | none=>(at_+bs.length,0)
 | some k=>if b.length<=at_+k then (at_,1) else (at_+k,2)
theorem r_W (hb:b.length<=MX)(ha:at_<=b.length)(hr:r.bytes.length<=MX):h_z r b at_=some (zV,((b_l b r.bytes at_).1:Int),(b_l b r.bytes at_).2):=by
 have hMX:=MXv;unfold h_z b_l
 rw [f_Y (b_j b r.bytes at_) (λk=>if b.length<=at_+k then (zV,(at_:Int),(1:Int)) else (zV,((at_+k:Nat):Int),2))]
 .rw [ia_ (x:=(at_:Int)) (by omega) (by omega)]
  cases (List.range r.bytes.length).find? (b_j b r.bytes at_) with
  | none=>simp only [bd_some,el_inl];congr 3
  | some k =>
   simp only [bd_some,el_inr]
   split <;> rfl
 .intro k hk _
  rw [ia_ (x:=(at_:Int)) (by omega) (by omega),show (at_:Int)+k=((at_+k:Nat):Int) by omega,ix_ hk]
  by_cases h:at_+k<b.length
  .rw [dF_ (by omega),ix_ h,show b_j b r.bytes at_ k=(byteI b[at_+k] != byteI r.bytes[k]) by unfold b_j;rw [gG_ h,a_b hk]]
   rw [iN_ (show ¬b.length<=at_+k by omega)]
   simp only [bd_some,bF_,fF_]
   exact d_p _ _
  .rw [dT_ (by omega),show b_j b r.bytes at_ k=true by unfold b_j;rw [gN_ (by omega)]]
   rw [iP_ (show b.length<=at_+k by omega)]
   rfl
theorem r_X (hb:b.length<=MX)(ha:at_<=b.length)(hr:r.bytes.length<=MX):h_Z ⟨d,b⟩ r at_=some (if (b_l b r.bytes at_).2=0 then (((b_l b r.bytes at_).1:Int),none) else ((at_:Int),some (((b_l b r.bytes at_).1:Int),(b_l b r.bytes at_).2))):=by
 have hMX:=MXv;unfold h_Z b_l c_a
 simp only
 rw [f_Y (b_j b r.bytes at_) (λk=>if b.length<=at_+k then ((at_:Int),some ((at_:Int),(1:Int))) else ((at_:Int),some (((at_+k:Nat):Int),2)))]
 .rw [ia_ (x:=(at_:Int)) (by omega) (by omega)]
  cases (List.range r.bytes.length).find? (b_j b r.bytes at_) with
  | none=>rfl
  | some k =>
   simp only [bd_some,el_inr]
   by_cases h:b.length<=at_+k
   .rw [iP_ h,iP_ h];rfl
   .rw [iN_ h,iN_ h];rfl
 .intro k hk _
  rw [ia_ (x:=(at_:Int)) (by omega) (by omega),show (at_:Int)+k=((at_+k:Nat):Int) by omega,ix_ hk]
  by_cases h:at_+k<b.length
  .rw [bd_some,dF_ (by omega),ix_ h,show b_j b r.bytes at_ k=(byteI b[at_+k] != byteI r.bytes[k]) by unfold b_j;rw [gG_ h,a_b hk]]
   rw [iN_ (show ¬b.length<=at_+k by omega)]
   simp only [bd_some,bF_,fF_]
   exact d_p _ _
  .rw [bd_some,dT_ (by omega),show b_j b r.bytes at_ k=true by unfold b_j;rw [gN_ (by omega)]]
   rw [iP_ (show b.length<=at_+k by omega)]
   rfl
theorem r_Y {ap:Int}(hb:b.length<=MX)(ha:at_<=b.length)(hr:r.bytes.length<=MX):h_O ⟨d,b,ap⟩ r at_=some ⟨((b_l b r.bytes at_).1:Int),(b_l b r.bytes at_).2⟩:=by
 have hMX:=MXv;unfold h_O b_l
 simp only
 rw [f_Y (b_j b r.bytes at_) (λk=>if b.length<=at_+k then (⟨(at_:Int),1⟩:Z_) else ⟨((at_+k:Nat):Int),2⟩)]
 .rw [ia_ (x:=(at_:Int)) (by omega) (by omega)]
  cases (List.range r.bytes.length).find? (b_j b r.bytes at_) with
  | none=>rfl
  | some k =>
   simp only [bd_some,el_inr]
   by_cases h:b.length<=at_+k
   .rw [iP_ h,iP_ h]
   .rw [iN_ h,iN_ h]
 .intro k hk hbef
  have hle:at_+k<=b.length:=by
   cases k with
   | zero=>omega
   | succ k =>
    have:=hbef k (by omega);unfold b_j at this
    by_cases h:at_+k<b.length
    .omega
    .rw [gN_ (by omega)] at this;cases this
  rw [ia_ (x:=(at_:Int)) (by omega) (by omega),show (at_:Int)+k=((at_+k:Nat):Int) by omega,ix_ hk]
  by_cases h:at_+k<b.length
  .rw [bd_some,show (((at_+k:Nat):Int)==(b.length:Int))=false by simp;omega,ix_ h,show b_j b r.bytes at_ k=(byteI b[at_+k] != byteI r.bytes[k]) by unfold b_j;rw [gG_ h,a_b hk]]
   rw [iN_ (show ¬b.length<=at_+k by omega)]
   simp only [bd_some,bF_,fF_]
   exact d_p _ _
  .rw [bd_some,show (((at_+k:Nat):Int)==(b.length:Int))=true by simp;omega,show b_j b r.bytes at_ k=true by unfold b_j;rw [gN_ (by omega)]]
   rw [iP_ (show b.length<=at_+k by omega)]
   rfl
theorem r_Z (ha:at_<=b.length)(bs:Bt):at_<=(b_l b bs at_).1/\(b_l b bs at_).1<=b.length:=by
 unfold b_l
 cases hf:(List.range bs.length).find? (b_j b bs at_) with
 | none =>
  simp only
  refine ⟨by omega,?_⟩
  cases hl:bs.length with
  | zero=>omega
  | succ m =>
   have:=List.find?_eq_none.1 hf m<|List.mem_range.2 (by omega);unfold b_j at this
   by_cases h:at_+m<b.length
   .omega
   .rw [gN_ (by omega)] at this;simp at this
 | some k =>
  simp only
  split
  .exact ⟨Nat.le_refl _,ha⟩
  .exact ⟨by omega,by omega⟩
theorem s_0 {bs:Bt}(h:(b_l b bs at_).2=0):(b_l b bs at_).1=at_+bs.length:=by
 unfold b_l at *
 cases hf:(List.range bs.length).find? (b_j b bs at_) with
 | none=>rfl
 | some k =>
  rw [hf] at h
  simp only at h
  split at h <;> cases h
def a_C (b:Bt)(at_:Nat)(n:Int):Val×Nat×Int:=if (b.length:Int) - at_<n then (zV,at_,1) else (⟨0,a_h b at_<|at_+n.toNat,[]⟩,at_+n.toNat,0)
theorem n_D {n:Int}(hb:b.length<=MX)(ha:at_<=b.length)(G:0<=n)(hn:n<4294967296):g_7 b at_ n=some ((a_C b at_ n).1,((a_C b at_ n).2.1:Int),(a_C b at_ n).2.2):=by
 have hMX:=MXv;unfold g_7 a_C
 rw [b_3 (x:=(b.length:Int)) (by omega) (by omega),ia_ (x:=(at_:Int)) (by omega) (by omega)]
 by_cases h:(b.length:Int) - at_<n
 .rw [dT_ h,iP_ rfl,iP_ h]
 .rw [dF_ h,iN_ (by simp),iN_ h,show (at_:Int)+n=((at_+n.toNat:Nat):Int) by omega,c_O (by omega) (by omega),bd_some,c_A (by rw [c_P (by omega)];simp [a_H];omega)]
  simp
theorem n_E {n:Int}(hb:b.length<=MX)(ha:at_<=b.length)(G:0<=n)(hn:n<4294967296):g_l ⟨d,b⟩ at_ n=some (if (a_C b at_ n).2.2=0 then ((a_C b at_ n).1,((a_C b at_ n).2.1:Int),none) else (zV,(at_:Int),some (((a_C b at_ n).2.1:Int),(a_C b at_ n).2.2))):=by
 have hMX:=MXv;unfold g_l a_C
 rw [j_w hb ha G hn]
 by_cases h:(b.length:Int) - at_<n
 .rw [iP_ h,iP_ h];rfl
 .rw [iN_ h,iN_ h]
  simp only [bd2_some]
  rw [c_A (by rw [c_P (by omega)];simp [a_H];omega),ia_ (x:=(at_:Int)) (by omega) (by omega),show (at_:Int)+n=((at_+n.toNat:Nat):Int) by omega]
  rfl
end
def a_U (ts:List Int)(n:Int):Option Nat:=(List.range ts.length).find? (λk=>ts.getD k 0==n)
def X_ (r:g_)(num:Int)(i:Nat):Int :=
 if r.kind==5 then r.kids.getD 1 0
 else if r.kind==6 then (if i<r.kids.length then r.kids.getD i 0 else -1)
 else if r.kind==7 then (match a_U r.tags num with | some k=>r.kids.getD (k+1) 0 | none=>-1)
 else if r.kind==8 then r.kids.getD 0 0
 else if r.kind==9 then r.kids.getD 0 0
 else -1
structure f_O (r:g_):Prop where
 arr:r.kind=5->r.kids.length=2
 cho:r.kind=7->r.kids.length=r.tags.length+1
 opt:r.kind=8->r.kids.length=1
 chk:r.kind=9->r.kids.length=1
theorem s_1 {r:g_}{num:Int}(h:r.kids.length=r.tags.length+1):x_ (σ:=Unit) (ρ:=Int) (λG=>(λ(_:Unit)=>bd (idx r.tags ((G:Nat):Int)) λH=>if (H==num) then bd (idx r.kids ((G+1:Nat):Int)) λI=>some (.ret I) else some (.next ()))) r.tags.length 0 ()=some (match a_U r.tags num with | some k=>.inr (r.kids.getD (k+1) 0) | none=>.inl ()):=by
 unfold a_U
 rw [f_Y (λk=>r.tags.getD k 0==num) (λk=>r.kids.getD (k+1) 0)]
 .cases (List.range r.tags.length).find? (λk=>r.tags.getD k 0==num) <;> rfl
 .intro k hk _
  rw [ix_ hk,bd_some,a_b hk,ix_ (show k+1<r.kids.length by omega),bd_some,a_b (show k+1<r.kids.length by omega)]
  by_cases h:r.tags[k]=num
  .rw [show (r.tags[k]==num)=true by simpa using h];rfl
  .rw [show (r.tags[k]==num)=false by simpa using h];rfl
theorem c_9 {r:g_}(h:f_O r)(num:Int)(i:Nat):a_Z r num i=some (X_ r num i):=by
 unfold a_Z X_
 by_cases h5:r.kind=5
 .rw [h5];simp only [bQ_,fT_]
  rw [f_X (by have:=h.arr h5;omega),a_b (by have:=h.arr h5;omega)];rfl
 .rw [show (r.kind==5)=false by simpa using h5]
  simp only [bF_,fF_]
  by_cases h6:r.kind=6
  .rw [h6];simp only [bQ_,fT_]
   by_cases hi:i<r.kids.length
   .rw [dT_ (by omega),ix_ hi,a_b hi,iP_ rfl,iP_ hi];rfl
   .rw [dF_ (by omega),iN_ (by simp),iN_ hi];rfl
  .rw [show (r.kind==6)=false by simpa using h6]
   simp only [bF_,fF_]
   by_cases I:r.kind=7
   .rw [I];simp only [bQ_,fT_]
    rw [s_1 (h.cho I)]
    cases a_U r.tags num <;> rfl
   .rw [show (r.kind==7)=false by simpa using I]
    simp only [bF_,fF_]
    by_cases G:r.kind=8
    .rw [G];simp only [bQ_,fT_,bd_some]
     rw [a_N (by have:=h.opt G;omega),a_b (by have:=h.opt G;omega)];rfl
    .rw [show (r.kind==8)=false by simpa using G]
     simp only [bF_,fF_]
     by_cases H:r.kind=9
     .rw [H];simp only [bQ_,fT_,bd_some]
      rw [a_N (by have:=h.chk H;omega),a_b (by have:=h.chk H;omega)];rfl
     .rw [show (r.kind==9)=false by simpa using H];rfl
theorem n_F {d:d_}{k:Int}{r:g_}(hk:idx d.rules k=some r)(h:f_O r)(v:Val)(i:Nat):g_n d k v i=some (X_ r v.number i):=by
 rw [← c_9 h v.number i]
 unfold g_n a_Z
 rw [hk];rfl
end Go.Vw
