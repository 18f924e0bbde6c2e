
import Derived.Test.YteocmnebeeammaaGreatDoorVwP2
namespace Go.Vw
open Go.RowKit Dat
abbrev zV:Val:=⟨0,([]:Bt),([]:List Val)⟩
theorem a_L:LIM=4294967296:=rfl
theorem MXv:MX=1048576:=rfl
def a_6 (b:Bt)(p q:Nat):Bt:=(b.take q).drop p
theorem c_S {b:Bt}{p q:Nat}(h1:p<=q)(h2:q<=b.length):slc b (p:Int) (q:Int)=some (a_6 b p q):=by
 rw [e_A (by omega) (by omega) (by omega)];rfl
theorem c_T {b:Bt}{p q:Nat}(h2:q<=b.length):(a_6 b p q).length=q - p:=by
 unfold a_6;simp;omega
def O_ (b:Bt)(r:b_)(at_:Nat):Option Int:=if (b.length:Int) - at_<r.size then none else some (d_X (a_6 b at_<|at_+r.size.toNat) r.little)
def d_Z (r:b_):Prop:=r.kind=1/\1<=r.size/\r.size<=4
theorem b_G {b:Bt}{r:b_}{at_:Nat}{n:Int}(hr:d_Z r)(h:O_ b r at_=some n):0<=n/\n<4294967296/\at_+r.size.toNat<=b.length:=by
 unfold O_ at h
 split at h
 .cases h
 .obtain ⟨_,h1,h4⟩:=hr
  cases Option.some.inj h
  have:=r_I (a_6 b at_<|at_+r.size.toNat) r.little (by rw [c_T (by omega)];omega);exact ⟨this.1,this.2,by omega⟩
section
variable {d:d_}{b:Bt}{r:b_}{k:Int}{at_:Nat}
theorem f_V (hk:idx d.rules k=some r)(hr:d_Z r)(hb:b.length<=MX)(ha:at_<=b.length) :
  c_I d k b at_=some (match O_ b r at_ with | none=>(0,(at_:Int),false) | some n=>(n,((at_+r.size.toNat:Nat):Int),true)):=by
 have hMX:=MXv;obtain ⟨_,h1,h4⟩:=hr;unfold c_I O_
 rw [hk,bd_some,b_n (x:=(b.length:Int)) (by omega) (by omega),ia_ (x:=(at_:Int)) (by omega) (by omega)]
 by_cases h:(b.length:Int) - at_<r.size
 .rw [dT_ h,iP_ rfl,iP_ h]
 .rw [dF_ h,iN_ (by simp),iN_ h,show (at_:Int)+r.size=((at_+r.size.toNat:Nat):Int) by omega,c_S (by omega) (by omega),bd_some,r_J _ _ (by rw [c_T (by omega)];omega)]
  rfl
theorem j_s {n:Int}(hb:b.length<=MX)(ha:at_<=b.length)(G:0<=n)(hn:n<4294967296) :
  e_O ⟨d,b⟩ at_ n=some (if (b.length:Int) - at_<n then ([],some ((at_:Int),1)) else (a_6 b at_<|at_+n.toNat,none)):=by
 have hMX:=MXv;unfold e_O c_7
 simp only
 rw [b_n (x:=(b.length:Int)) (by omega) (by omega),ia_ (x:=(at_:Int)) (by omega) (by omega)]
 by_cases h:(b.length:Int) - at_<n
 .rw [dT_ h,iP_ rfl,iP_ h];rfl
 .rw [dF_ h,iN_ (by simp),iN_ h,show (at_:Int)+n=((at_+n.toNat:Nat):Int) by omega,c_S (by omega) (by omega)];rfl
theorem j_t (hk:idx d.rules k=some r)(hr:d_Z r)(hb:b.length<=MX)(ha:at_<=b.length) :
  e_P ⟨d,b⟩ k at_=some (match O_ b r at_ with | none=>(0,(at_:Int),some ((at_:Int),1)) | some n=>(n,((at_+r.size.toNat:Nat):Int),none)):=by
 have hMX:=MXv;obtain ⟨_,h1,h4⟩:=hr;unfold e_P O_
 simp only
 rw [hk,bd_some,j_s hb ha (by omega) (by omega)]
 by_cases h:(b.length:Int) - at_<r.size
 .rw [iP_ h,iP_ h];rfl
 .rw [iN_ h,iN_ h]
  simp only [bd2_some]
  rw [k_Y _ _ (by rw [c_T (by omega)];omega),ia_ (by omega) (by omega),show (at_:Int)+r.size=((at_+r.size.toNat:Nat):Int) by omega]
  rfl
theorem h_1 {ap n:Int}(hb:b.length<=MX)(ha:at_<=b.length)(G:0<=n)(hn:n<4294967296) :
  e_8 ⟨d,b,ap⟩ at_ n=some (if (b.length:Int) - at_<n then ⟨(at_:Int),1⟩ else ⟨((at_+n.toNat:Nat):Int),0⟩):=by
 have hMX:=MXv;unfold e_8
 simp only
 rw [b_n (x:=(b.length:Int)) (by omega) (by omega),ia_ (x:=(at_:Int)) (by omega) (by omega)]
 by_cases h:(b.length:Int) - at_<n
 .rw [dT_ h,iP_ rfl,iP_ h]
 .rw [dF_ h,iN_ (by simp),iN_ h,show (at_:Int)+n=((at_+n.toNat:Nat):Int) by omega]
theorem j_u {ap:Int}(hk:idx d.rules k=some r)(hr:d_Z r)(hb:b.length<=MX)(ha:at_<=b.length) :
  e_N ⟨d,b,ap⟩ k at_=some (match O_ b r at_ with | none=>(0,⟨(at_:Int),1⟩,g_ ap 1) | some n=>(n,⟨((at_+r.size.toNat:Nat):Int),0⟩,g_ ap 1)):=by
 have hMX:=MXv;obtain ⟨_,h1,h4⟩:=hr;unfold e_N O_
 simp only
 rw [hk,bd_some,h_1 hb ha (by omega) (by omega)]
 by_cases h:(b.length:Int) - at_<r.size
 .rw [iP_ h,iP_ h];rfl
 .rw [iN_ h,iN_ h]
  simp only [bd_some]
  rw [c_S (by omega) (by omega),bd_some,k_Y _ _ (by rw [c_T (by omega)];omega)]
  rfl
def b_b (b bs:Bt)(at_ k:Nat):Bool:=match b[at_+k]? with
 | none=>true
 | some c=>byteI c != byteI (bs.getD k 0)
def b_i (b bs:Bt)(at_:Nat):Nat×Int:=match (List.range bs.length).find? (b_b b bs at_) with
 | none=>(at_+bs.length,0)
 | some k=>if b.length<=at_+k then (at_,1) else (at_+k,2)
theorem s_9 (hb:b.length<=MX)(ha:at_<=b.length)(hr:r.bytes.length<=MX):h_o r b at_=some (zV,((b_i b r.bytes at_).1:Int),(b_i b r.bytes at_).2):=by
 have hMX:=MXv;unfold h_o b_i
 rw [g_2 (b_b b r.bytes at_) (λk=>if b.length<=at_+k then (zV,(at_:Int),(1:Int)) else (zV,((at_+k:Nat):Int),2))]
 .rw [ia_ (x:=(at_:Int)) (by omega) (by omega)]
  cases (List.range r.bytes.length).find? (b_b b r.bytes at_) with
  | none=>simp only [bd_some,el_inl];congr 3
  | some k =>
   simp only [bd_some,el_inr]
   split <;> rfl
 .intro k hk _
  rw [ia_ (x:=(at_:Int)) (by omega) (by omega),show (at_:Int)+k=((at_+k:Nat):Int) by omega,ix_ hk]
  by_cases h:at_+k<b.length
  .rw [dF_ (by omega),ix_ h,show b_b b r.bytes at_ k=(byteI b[at_+k] != byteI r.bytes[k]) by unfold b_b;rw [gG_ h,Z_ hk]]
   rw [iN_ (show ¬b.length<=at_+k by omega)]
   simp only [bd_some,bF_,fF_]
   exact d_v _ _
  .rw [dT_ (by omega),show b_b b r.bytes at_ k=true by unfold b_b;rw [gN_ (by omega)]]
   rw [iP_ (show b.length<=at_+k by omega)]
   rfl
theorem s_a (hb:b.length<=MX)(ha:at_<=b.length)(hr:r.bytes.length<=MX):h_J ⟨d,b⟩ r at_=some (if (b_i b r.bytes at_).2=0 then (((b_i b r.bytes at_).1:Int),none) else ((at_:Int),some (((b_i b r.bytes at_).1:Int),(b_i b r.bytes at_).2))):=by
 have hMX:=MXv;unfold h_J b_i c_7
 simp only
 rw [g_2 (b_b b r.bytes at_) (λk=>if b.length<=at_+k then ((at_:Int),some ((at_:Int),(1:Int))) else ((at_:Int),some (((at_+k:Nat):Int),2)))]
 .rw [ia_ (x:=(at_:Int)) (by omega) (by omega)]
  cases (List.range r.bytes.length).find? (b_b b r.bytes at_) with
  | none=>rfl
  | some k =>
   simp only [bd_some,el_inr]
   by_cases h:b.length<=at_+k
   .rw [iP_ h,iP_ h];rfl
   .rw [iN_ h,iN_ h];rfl
 .intro k hk _
  rw [ia_ (x:=(at_:Int)) (by omega) (by omega),show (at_:Int)+k=((at_+k:Nat):Int) by omega,ix_ hk]
  by_cases h:at_+k<b.length
  .rw [bd_some,dF_ (by omega),ix_ h,show b_b b r.bytes at_ k=(byteI b[at_+k] != byteI r.bytes[k]) by unfold b_b;rw [gG_ h,Z_ hk]]
   rw [iN_ (show ¬b.length<=at_+k by omega)]
   simp only [bd_some,bF_,fF_]
   exact d_v _ _
  .rw [bd_some,dT_ (by omega),show b_b b r.bytes at_ k=true by unfold b_b;rw [gN_ (by omega)]]
   rw [iP_ (show b.length<=at_+k by omega)]
   rfl
theorem s_b {ap:Int}(hb:b.length<=MX)(ha:at_<=b.length)(hr:r.bytes.length<=MX):h_D ⟨d,b,ap⟩ r at_=some ⟨((b_i b r.bytes at_).1:Int),(b_i b r.bytes at_).2⟩:=by
 have hMX:=MXv;unfold h_D b_i
 simp only
 rw [g_2 (b_b b r.bytes at_) (λk=>if b.length<=at_+k then (⟨(at_:Int),1⟩:S_) else ⟨((at_+k:Nat):Int),2⟩)]
 .rw [ia_ (x:=(at_:Int)) (by omega) (by omega)]
  cases (List.range r.bytes.length).find? (b_b b r.bytes at_) with
  | none=>rfl
  | some k =>
   simp only [bd_some,el_inr]
   by_cases h:b.length<=at_+k
   .rw [iP_ h,iP_ h]
   .rw [iN_ h,iN_ h]
 .intro k hk hbef
  have hle:at_+k<=b.length:=by
   cases k with
   | zero=>omega
   | succ k =>
    have:=hbef k (by omega);unfold b_b at this
    by_cases h:at_+k<b.length
    .omega
    .rw [gN_ (by omega)] at this;cases this
  rw [ia_ (x:=(at_:Int)) (by omega) (by omega),show (at_:Int)+k=((at_+k:Nat):Int) by omega,ix_ hk]
  by_cases h:at_+k<b.length
  .rw [bd_some,show (((at_+k:Nat):Int)==(b.length:Int))=false by simp;omega,ix_ h,show b_b b r.bytes at_ k=(byteI b[at_+k] != byteI r.bytes[k]) by unfold b_b;rw [gG_ h,Z_ hk]]
   rw [iN_ (show ¬b.length<=at_+k by omega)]
   simp only [bd_some,bF_,fF_]
   exact d_v _ _
  .rw [bd_some,show (((at_+k:Nat):Int)==(b.length:Int))=true by simp;omega,show b_b b r.bytes at_ k=true by unfold b_b;rw [gN_ (by omega)]]
   rw [iP_ (show b.length<=at_+k by omega)]
   rfl
theorem s_c (ha:at_<=b.length)(bs:Bt):at_<=(b_i b bs at_).1/\(b_i b bs at_).1<=b.length:=by
 unfold b_i
 cases hf:(List.range bs.length).find? (b_b b bs at_) with
 | none =>
  simp only
  refine ⟨by omega,?_⟩
  cases hl:bs.length with
  | zero=>omega
  | succ m =>
   have:=List.find?_eq_none.1 hf m<|List.mem_range.2 (by omega);unfold b_b at this
   by_cases h:at_+m<b.length
   .omega
   .rw [gN_ (by omega)] at this;simp at this
 | some k =>
  simp only
  split
  .exact ⟨Nat.le_refl _,ha⟩
  .exact ⟨by omega,by omega⟩
theorem s_d {bs:Bt}(h:(b_i b bs at_).2=0):(b_i b bs at_).1=at_+bs.length:=by
 unfold b_i at *
 cases hf:(List.range bs.length).find? (b_b b bs at_) with
 | none=>rfl
 | some k =>
  rw [hf] at h
  simp only at h
  split at h <;> cases h
def a_v (b:Bt)(at_:Nat)(n:Int):Val×Nat×Int:=if (b.length:Int) - at_<n then (zV,at_,1) else (⟨0,a_6 b at_<|at_+n.toNat,[]⟩,at_+n.toNat,0)
theorem o_2 {n:Int}(hb:b.length<=MX)(ha:at_<=b.length)(G:0<=n)(hn:n<4294967296):g_h b at_ n=some ((a_v b at_ n).1,((a_v b at_ n).2.1:Int),(a_v b at_ n).2.2):=by
 have hMX:=MXv;unfold g_h a_v
 rw [b_n (x:=(b.length:Int)) (by omega) (by omega),ia_ (x:=(at_:Int)) (by omega) (by omega)]
 by_cases h:(b.length:Int) - at_<n
 .rw [dT_ h,iP_ rfl,iP_ h]
 .rw [dF_ h,iN_ (by simp),iN_ h,show (at_:Int)+n=((at_+n.toNat:Nat):Int) by omega,c_S (by omega) (by omega),bd_some,j_E (by rw [c_T (by omega)];simp [a_L];omega)]
  simp
theorem o_3 {n:Int}(hb:b.length<=MX)(ha:at_<=b.length)(G:0<=n)(hn:n<4294967296):g_q ⟨d,b⟩ at_ n=some (if (a_v b at_ n).2.2=0 then ((a_v b at_ n).1,((a_v b at_ n).2.1:Int),none) else (zV,(at_:Int),some (((a_v b at_ n).2.1:Int),(a_v b at_ n).2.2))):=by
 have hMX:=MXv;unfold g_q a_v
 rw [j_s hb ha G hn]
 by_cases h:(b.length:Int) - at_<n
 .rw [iP_ h,iP_ h];rfl
 .rw [iN_ h,iN_ h]
  simp only [bd2_some]
  rw [j_E (by rw [c_T (by omega)];simp [a_L];omega),ia_ (x:=(at_:Int)) (by omega) (by omega),show (at_:Int)+n=((at_+n.toNat:Nat):Int) by omega]
  rfl
end
def a_S (ts:List Int)(n:Int):Option Nat:=(List.range ts.length).find? (λk=>ts.getD k 0==n)
def a_l (r:b_)(num:Int)(i:Nat):Int :=
 if r.kind==5 then r.kids.getD 1 0
 else if r.kind==6 then (if i<r.kids.length then r.kids.getD i 0 else -1)
 else if r.kind==7 then (match a_S r.tags num with | some k=>r.kids.getD (k+1) 0 | none=>-1)
 else if r.kind==8 then r.kids.getD 0 0
 else if r.kind==9 then r.kids.getD 0 0
 else -1
structure f_W (r:b_):Prop where
 arr:r.kind=5->r.kids.length=2
 cho:r.kind=7->r.kids.length=r.tags.length+1
 opt:r.kind=8->r.kids.length=1
 chk:r.kind=9->r.kids.length=1
theorem s_e {r:b_}{num:Int}(h:r.kids.length=r.tags.length+1):r_ (σ:=Unit) (ρ:=Int) (λG=>(λ(_:Unit)=>bd (idx r.tags ((G:Nat):Int)) λH=>if (H==num) then bd (idx r.kids ((G+1:Nat):Int)) λI=>some (.ret I) else some (.next ()))) r.tags.length 0 ()=some (match a_S r.tags num with | some k=>.inr (r.kids.getD (k+1) 0) | none=>.inl ()):=by
 unfold a_S
 rw [g_2 (λk=>r.tags.getD k 0==num) (λk=>r.kids.getD (k+1) 0)]
 .cases (List.range r.tags.length).find? (λk=>r.tags.getD k 0==num) <;> rfl
 .intro k hk _
  rw [ix_ hk,bd_some,Z_ hk,ix_ (show k+1<r.kids.length by omega),bd_some,Z_ (show k+1<r.kids.length by omega)]
  by_cases h:r.tags[k]=num
  .rw [show (r.tags[k]==num)=true by simpa using h];rfl
  .rw [show (r.tags[k]==num)=false by simpa using h];rfl
theorem c_U {r:b_}(h:f_W r)(num:Int)(i:Nat):b_j r num i=some (a_l r num i):=by
 unfold b_j a_l
 by_cases h5:r.kind=5
 .rw [h5];simp only [bQ_,fT_]
  rw [j_D (by have:=h.arr h5;omega),Z_ (by have:=h.arr h5;omega)];rfl
 .rw [show (r.kind==5)=false by simpa using h5]
  simp only [bF_,fF_]
  by_cases h6:r.kind=6
  .rw [h6];simp only [bQ_,fT_]
   by_cases hi:i<r.kids.length
   .rw [dT_ (by omega),ix_ hi,Z_ hi,iP_ rfl,iP_ hi];rfl
   .rw [dF_ (by omega),iN_ (by simp),iN_ hi];rfl
  .rw [show (r.kind==6)=false by simpa using h6]
   simp only [bF_,fF_]
   by_cases I:r.kind=7
   .rw [I];simp only [bQ_,fT_]
    rw [s_e (h.cho I)]
    cases a_S r.tags num <;> rfl
   .rw [show (r.kind==7)=false by simpa using I]
    simp only [bF_,fF_]
    by_cases G:r.kind=8
    .rw [G];simp only [bQ_,fT_,bd_some]
     rw [a_Z (by have:=h.opt G;omega),Z_ (by have:=h.opt G;omega)];rfl
    .rw [show (r.kind==8)=false by simpa using G]
     simp only [bF_,fF_]
     by_cases H:r.kind=9
     .rw [H];simp only [bQ_,fT_,bd_some]
      rw [a_Z (by have:=h.chk H;omega),Z_ (by have:=h.chk H;omega)];rfl
     .rw [show (r.kind==9)=false by simpa using H];rfl
theorem l_a {d:d_}{k:Int}{r:b_}(hk:idx d.rules k=some r)(h:f_W r)(v:Val)(i:Nat):e_b d k v i=some (a_l r v.number i):=by
 rw [← c_U h v.number i]
 unfold e_b b_j
 rw [hk];rfl
end Go.Vw
