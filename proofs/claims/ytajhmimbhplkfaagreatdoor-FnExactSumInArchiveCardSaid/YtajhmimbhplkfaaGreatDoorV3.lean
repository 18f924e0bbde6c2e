import Derived.Test.YtajhmimbhplkfaaGreatDoorV2
namespace Go.Vw
open Go.RowKit Dat
abbrev zV:Val:=⟨0,([]:List UInt8),([]:List Val)⟩
theorem a_u:LIM=4294967296:=rfl
theorem MXv:MX=1048576:=rfl
def a_a (b:List UInt8)(p q:Nat):List UInt8:=(b.take q).drop p
theorem c_Y {b:List UInt8}{p q:Nat}(h1:p<=q)(h2:q<=b.length):slc b (p:Int) (q:Int)=some (a_a b p q):=by
 rw [d_7 (by omega) (by omega) (by omega)];rfl
theorem e_d {b:List UInt8}{p q:Nat}(h2:q<=b.length):(a_a b p q).length=q - p:=by
 unfold a_a;simp;omega
def a_d (b:List UInt8)(r:g_)(at_:Nat):Option Int:=if (b.length:Int) - at_<r.size then none else some (d_q (a_a b at_<|at_+r.size.toNat) r.little)
def g_d (r:g_):Prop:=r.kind=1/\1<=r.size/\r.size<=4
theorem c_B {b:List UInt8}{r:g_}{at_:Nat}{n:Int}(hr:g_d r)(h:a_d b r at_=some n):0<=n/\n<4294967296/\at_+r.size.toNat<=b.length:=by
 unfold a_d at h
 split at h
 ·cases h
 ·obtain ⟨_,h1,h4⟩:=hr
  cases Option.some.inj h
  have:=j_T (a_a b at_<|at_+r.size.toNat) r.little (by rw [e_d (by omega)];omega);exact ⟨this.1,this.2,by omega⟩
section
variable {d:e_}{b:List UInt8}{r:g_}{k:Int}{at_:Nat}
theorem k_0 (hk:idx d.rules k=some r)(hr:g_d r)(hb:b.length<=MX)(ha:at_<=b.length) :
  d_f d k b at_=some (match a_d b r at_ with | none=>(0,(at_:Int),false) | some n=>(n,((at_+r.size.toNat:Nat):Int),true)):=by
 have hMX:=MXv;obtain ⟨_,h1,h4⟩:=hr;unfold d_f a_d
 rw [hk,bd_some,a_x (x:=(b.length:Int)) (by omega) (by omega),ia_ (x:=(at_:Int)) (by omega) (by omega)]
 by_cases h:(b.length:Int) - at_<r.size
 ·rw [dT_ h,iP_ rfl,iP_ h]
 ·rw [dF_ h,iN_ (by simp),iN_ h,show (at_:Int)+r.size=((at_+r.size.toNat:Nat):Int) by omega,c_Y (by omega) (by omega),bd_some,l_x _ _ (by rw [e_d (by omega)];omega)]
  rfl
theorem k_1 {n:Int}(hb:b.length<=MX)(ha:at_<=b.length)(G:0<=n)(hn:n<4294967296) :
  f_4 ⟨d,b⟩ at_ n=some (if (b.length:Int) - at_<n then ([],some ((at_:Int),1)) else (a_a b at_<|at_+n.toNat,none)):=by
 have hMX:=MXv;unfold f_4 c_a
 simp only
 rw [a_x (x:=(b.length:Int)) (by omega) (by omega),ia_ (x:=(at_:Int)) (by omega) (by omega)]
 by_cases h:(b.length:Int) - at_<n
 ·rw [dT_ h,iP_ rfl,iP_ h];rfl
 ·rw [dF_ h,iN_ (by simp),iN_ h,show (at_:Int)+n=((at_+n.toNat:Nat):Int) by omega,c_Y (by omega) (by omega)];rfl
theorem k_2 (hk:idx d.rules k=some r)(hr:g_d r)(hb:b.length<=MX)(ha:at_<=b.length) :
  f_5 ⟨d,b⟩ k at_=some (match a_d b r at_ with | none=>(0,(at_:Int),some ((at_:Int),1)) | some n=>(n,((at_+r.size.toNat:Nat):Int),none)):=by
 have hMX:=MXv;obtain ⟨_,h1,h4⟩:=hr;unfold f_5 a_d
 simp only
 rw [hk,bd_some,k_1 hb ha (by omega) (by omega)]
 by_cases h:(b.length:Int) - at_<r.size
 ·rw [iP_ h,iP_ h];rfl
 ·rw [iN_ h,iN_ h]
  simp only [bd2_some]
  rw [l_z _ _ (by rw [e_d (by omega)];omega),ia_ (by omega) (by omega),show (at_:Int)+r.size=((at_+r.size.toNat:Nat):Int) by omega]
  rfl
theorem h_u {ap n:Int}(hb:b.length<=MX)(ha:at_<=b.length)(G:0<=n)(hn:n<4294967296) :
  e_t ⟨d,b,ap⟩ at_ n=some (if (b.length:Int) - at_<n then ⟨(at_:Int),1⟩ else ⟨((at_+n.toNat:Nat):Int),0⟩):=by
 have hMX:=MXv;unfold e_t
 simp only
 rw [a_x (x:=(b.length:Int)) (by omega) (by omega),ia_ (x:=(at_:Int)) (by omega) (by omega)]
 by_cases h:(b.length:Int) - at_<n
 ·rw [dT_ h,iP_ rfl,iP_ h]
 ·rw [dF_ h,iN_ (by simp),iN_ h,show (at_:Int)+n=((at_+n.toNat:Nat):Int) by omega]
theorem k_3 {ap:Int}(hk:idx d.rules k=some r)(hr:g_d r)(hb:b.length<=MX)(ha:at_<=b.length) :
  f_3 ⟨d,b,ap⟩ k at_=some (match a_d b r at_ with | none=>(0,⟨(at_:Int),1⟩,b_ ap 1) | some n=>(n,⟨((at_+r.size.toNat:Nat):Int),0⟩,b_ ap 1)):=by
 have hMX:=MXv;obtain ⟨_,h1,h4⟩:=hr;unfold f_3 a_d
 simp only
 rw [hk,bd_some,h_u hb ha (by omega) (by omega)]
 by_cases h:(b.length:Int) - at_<r.size
 ·rw [iP_ h,iP_ h];rfl
 ·rw [iN_ h,iN_ h]
  simp only [bd_some]
  rw [c_Y (by omega) (by omega),bd_some,l_z _ _ (by rw [e_d (by omega)];omega)]
  rfl
def b_f (b bs:List UInt8)(at_ k:Nat):Bool:=match b[at_+k]? with
 | none=>true
 | some c=>byteI c != byteI (bs.getD k 0)
def b_n (b bs:List UInt8)(at_:Nat):Nat×Int:=match (List.range bs.length).find? (b_f b bs at_) with
 | none=>(at_+bs.length,0)
 | some k=>if b.length<=at_+k then (at_,1) else (at_+k,2)
theorem s_A (hb:b.length<=MX)(ha:at_<=b.length)(hr:r.bytes.length<=MX):h_W r b at_=some (zV,((b_n b r.bytes at_).1:Int),(b_n b r.bytes at_).2):=by
 have hMX:=MXv;unfold h_W b_n
 rw [g_m (b_f b r.bytes at_) (fun k=>if b.length<=at_+k then (zV,(at_:Int),(1:Int)) else (zV,((at_+k:Nat):Int),2))]
 ·rw [ia_ (x:=(at_:Int)) (by omega) (by omega)]
  cases (List.range r.bytes.length).find? (b_f b r.bytes at_) with
  | none=>simp only [bd_some,el_inl];congr 3
  | some k =>
   simp only [bd_some,el_inr]
   split <;> rfl
 ·intro k hk _
  rw [ia_ (x:=(at_:Int)) (by omega) (by omega),show (at_:Int)+k=((at_+k:Nat):Int) by omega,ix_ hk]
  by_cases h:at_+k<b.length
  ·rw [dF_ (by omega),ix_ h,show b_f b r.bytes at_ k=(byteI b[at_+k] != byteI r.bytes[k]) by unfold b_f;rw [gG_ h,a_F hk]]
   rw [iN_ (show ¬b.length<=at_+k by omega)]
   simp only [bd_some,bF_,fF_]
   exact c_T _ _
  ·rw [dT_ (by omega),show b_f b r.bytes at_ k=true by unfold b_f;rw [gN_ (by omega)]]
   rw [iP_ (show b.length<=at_+k by omega)]
   rfl
theorem s_B (hb:b.length<=MX)(ha:at_<=b.length)(hr:r.bytes.length<=MX):i_j ⟨d,b⟩ r at_=some (if (b_n b r.bytes at_).2=0 then (((b_n b r.bytes at_).1:Int),none) else ((at_:Int),some (((b_n b r.bytes at_).1:Int),(b_n b r.bytes at_).2))):=by
 have hMX:=MXv;unfold i_j b_n c_a
 simp only
 rw [g_m (b_f b r.bytes at_) (fun k=>if b.length<=at_+k then ((at_:Int),some ((at_:Int),(1:Int))) else ((at_:Int),some (((at_+k:Nat):Int),2)))]
 ·rw [ia_ (x:=(at_:Int)) (by omega) (by omega)]
  cases (List.range r.bytes.length).find? (b_f b r.bytes at_) with
  | none=>rfl
  | some k =>
   simp only [bd_some,el_inr]
   by_cases h:b.length<=at_+k
   ·rw [iP_ h,iP_ h];rfl
   ·rw [iN_ h,iN_ h];rfl
 ·intro k hk _
  rw [ia_ (x:=(at_:Int)) (by omega) (by omega),show (at_:Int)+k=((at_+k:Nat):Int) by omega,ix_ hk]
  by_cases h:at_+k<b.length
  ·rw [bd_some,dF_ (by omega),ix_ h,show b_f b r.bytes at_ k=(byteI b[at_+k] != byteI r.bytes[k]) by unfold b_f;rw [gG_ h,a_F hk]]
   rw [iN_ (show ¬b.length<=at_+k by omega)]
   simp only [bd_some,bF_,fF_]
   exact c_T _ _
  ·rw [bd_some,dT_ (by omega),show b_f b r.bytes at_ k=true by unfold b_f;rw [gN_ (by omega)]]
   rw [iP_ (show b.length<=at_+k by omega)]
   rfl
theorem s_C {ap:Int}(hb:b.length<=MX)(ha:at_<=b.length)(hr:r.bytes.length<=MX):i_c ⟨d,b,ap⟩ r at_=some ⟨((b_n b r.bytes at_).1:Int),(b_n b r.bytes at_).2⟩:=by
 have hMX:=MXv;unfold i_c b_n
 simp only
 rw [g_m (b_f b r.bytes at_) (fun k=>if b.length<=at_+k then (⟨(at_:Int),1⟩:U_) else ⟨((at_+k:Nat):Int),2⟩)]
 ·rw [ia_ (x:=(at_:Int)) (by omega) (by omega)]
  cases (List.range r.bytes.length).find? (b_f b r.bytes at_) with
  | none=>rfl
  | some k =>
   simp only [bd_some,el_inr]
   by_cases h:b.length<=at_+k
   ·rw [iP_ h,iP_ h]
   ·rw [iN_ h,iN_ h]
 ·intro k hk hbef
  have hle:at_+k<=b.length:=by
   cases k with
   | zero=>omega
   | succ k =>
    have:=hbef k (by omega);unfold b_f at this
    by_cases h:at_+k<b.length
    ·omega
    ·rw [gN_ (by omega)] at this;cases this
  rw [ia_ (x:=(at_:Int)) (by omega) (by omega),show (at_:Int)+k=((at_+k:Nat):Int) by omega,ix_ hk]
  by_cases h:at_+k<b.length
  ·rw [bd_some,show (((at_+k:Nat):Int)==(b.length:Int))=false by simp;omega,ix_ h,show b_f b r.bytes at_ k=(byteI b[at_+k] != byteI r.bytes[k]) by unfold b_f;rw [gG_ h,a_F hk]]
   rw [iN_ (show ¬b.length<=at_+k by omega)]
   simp only [bd_some,bF_,fF_]
   exact c_T _ _
  ·rw [bd_some,show (((at_+k:Nat):Int)==(b.length:Int))=true by simp;omega,show b_f b r.bytes at_ k=true by unfold b_f;rw [gN_ (by omega)]]
   rw [iP_ (show b.length<=at_+k by omega)]
   rfl
theorem s_D (ha:at_<=b.length)(bs:List UInt8):at_<=(b_n b bs at_).1/\(b_n b bs at_).1<=b.length:=by
 unfold b_n
 cases hf:(List.range bs.length).find? (b_f b bs at_) with
 | none =>
  simp only
  refine ⟨by omega,?_⟩
  cases hl:bs.length with
  | zero=>omega
  | succ m =>
   have:=List.find?_eq_none.1 hf m<|List.mem_range.2 (by omega);unfold b_f at this
   by_cases h:at_+m<b.length
   ·omega
   ·rw [gN_ (by omega)] at this;simp at this
 | some k =>
  simp only
  split
  ·exact ⟨Nat.le_refl _,ha⟩
  ·exact ⟨by omega,by omega⟩
theorem s_E {bs:List UInt8}(h:(b_n b bs at_).2=0):(b_n b bs at_).1=at_+bs.length:=by
 unfold b_n at *
 cases hf:(List.range bs.length).find? (b_f b bs at_) with
 | none=>rfl
 | some k =>
  rw [hf] at h
  simp only at h
  split at h <;> cases h
def a_V (b:List UInt8)(at_:Nat)(n:Int):Val×Nat×Int:=if (b.length:Int) - at_<n then (zV,at_,1) else (⟨0,a_a b at_<|at_+n.toNat,[]⟩,at_+n.toNat,0)
theorem o_k {n:Int}(hb:b.length<=MX)(ha:at_<=b.length)(G:0<=n)(hn:n<4294967296):g_F b at_ n=some ((a_V b at_ n).1,((a_V b at_ n).2.1:Int),(a_V b at_ n).2.2):=by
 have hMX:=MXv;unfold g_F a_V
 rw [a_x (x:=(b.length:Int)) (by omega) (by omega),ia_ (x:=(at_:Int)) (by omega) (by omega)]
 by_cases h:(b.length:Int) - at_<n
 ·rw [dT_ h,iP_ rfl,iP_ h]
 ·rw [dF_ h,iN_ (by simp),iN_ h,show (at_:Int)+n=((at_+n.toNat:Nat):Int) by omega,c_Y (by omega) (by omega),bd_some,c_0 (by rw [e_d (by omega)];simp [a_u];omega)]
  simp
theorem o_l {n:Int}(hb:b.length<=MX)(ha:at_<=b.length)(G:0<=n)(hn:n<4294967296):g_P ⟨d,b⟩ at_ n=some (if (a_V b at_ n).2.2=0 then ((a_V b at_ n).1,((a_V b at_ n).2.1:Int),none) else (zV,(at_:Int),some (((a_V b at_ n).2.1:Int),(a_V b at_ n).2.2))):=by
 have hMX:=MXv;unfold g_P a_V
 rw [k_1 hb ha G hn]
 by_cases h:(b.length:Int) - at_<n
 ·rw [iP_ h,iP_ h];rfl
 ·rw [iN_ h,iN_ h]
  simp only [bd2_some]
  rw [c_0 (by rw [e_d (by omega)];simp [a_u];omega),ia_ (x:=(at_:Int)) (by omega) (by omega),show (at_:Int)+n=((at_+n.toNat:Nat):Int) by omega]
  rfl
end
def b_A (ts:List Int)(n:Int):Option Nat:=(List.range ts.length).find? (fun k=>ts.getD k 0==n)
def b_8 (r:g_)(num:Int)(i:Nat):Int :=
 if r.kind==5 then r.kids.getD 1 0
 else if r.kind==6 then (if i<r.kids.length then r.kids.getD i 0 else -1)
 else if r.kind==7 then (match b_A r.tags num with | some k=>r.kids.getD (k+1) 0 | none=>-1)
 else if r.kind==8 then r.kids.getD 0 0
 else if r.kind==9 then r.kids.getD 0 0
 else -1
structure k_4 (r:g_):Prop where
 arr:r.kind=5->r.kids.length=2
 cho:r.kind=7->r.kids.length=r.tags.length+1
 opt:r.kind=8->r.kids.length=1
 chk:r.kind=9->r.kids.length=1
theorem s_F {r:g_}{num:Int}(h:r.kids.length=r.tags.length+1):t_ (σ:=Unit) (ρ:=Int) (fun G=>(fun (_:Unit)=>bd (idx r.tags ((G:Nat):Int)) fun H=>if (H==num)=true then bd (idx r.kids ((G+1:Nat):Int)) fun I=>some (.ret I) else some (.next ()))) r.tags.length 0 ()=some (match b_A r.tags num with | some k=>.inr (r.kids.getD (k+1) 0) | none=>.inl ()):=by
 unfold b_A
 rw [g_m (fun k=>r.tags.getD k 0==num) (fun k=>r.kids.getD (k+1) 0)]
 ·cases (List.range r.tags.length).find? (fun k=>r.tags.getD k 0==num) <;> rfl
 ·intro k hk _
  rw [ix_ hk,bd_some,a_F hk,ix_ (show k+1<r.kids.length by omega),bd_some,a_F (show k+1<r.kids.length by omega)]
  by_cases h:r.tags[k]=num
  ·rw [show (r.tags[k]==num)=true by simpa using h];rfl
  ·rw [show (r.tags[k]==num)=false by simpa using h];rfl
theorem k_5 {r:g_}(h:k_4 r)(num:Int)(i:Nat):d_z r num i=some (b_8 r num i):=by
 unfold d_z b_8
 by_cases h5:r.kind=5
 ·rw [h5];simp only [bQ_,fT_]
  rw [m_a (by have:=h.arr h5;omega),a_F (by have:=h.arr h5;omega)];rfl
 ·rw [show (r.kind==5)=false by simpa using h5]
  simp only [bF_,fF_]
  by_cases h6:r.kind=6
  ·rw [h6];simp only [bQ_,fT_]
   by_cases hi:i<r.kids.length
   ·rw [dT_ (by omega),ix_ hi,a_F hi,iP_ rfl,iP_ hi];rfl
   ·rw [dF_ (by omega),iN_ (by simp),iN_ hi];rfl
  ·rw [show (r.kind==6)=false by simpa using h6]
   simp only [bF_,fF_]
   by_cases I:r.kind=7
   ·rw [I];simp only [bQ_,fT_]
    rw [s_F (h.cho I)]
    cases b_A r.tags num <;> rfl
   ·rw [show (r.kind==7)=false by simpa using I]
    simp only [bF_,fF_]
    by_cases G:r.kind=8
    ·rw [G];simp only [bQ_,fT_,bd_some]
     rw [b_S (by have:=h.opt G;omega),a_F (by have:=h.opt G;omega)];rfl
    ·rw [show (r.kind==8)=false by simpa using G]
     simp only [bF_,fF_]
     by_cases H:r.kind=9
     ·rw [H];simp only [bQ_,fT_,bd_some]
      rw [b_S (by have:=h.chk H;omega),a_F (by have:=h.chk H;omega)];rfl
     ·rw [show (r.kind==9)=false by simpa using H];rfl
theorem s_G {d:e_}{k:Int}{r:g_}(hk:idx d.rules k=some r)(h:k_4 r)(v:Val)(i:Nat):f_L d k v i=some (b_8 r v.number i):=by
 rw [← k_5 h v.number i]
 unfold f_L d_z
 rw [hk];rfl
end Go.Vw
namespace Go.Vw
open Go.RowKit Dat
abbrev RR:=Val×Nat×Int
def K_ (rs:List g_)(k:Int):g_:=rs.getD k.toNat default
def a_h (rs:List g_)(b:List UInt8)(r:g_)(at_:Nat):Sum Int (Int×List Int×Nat) :=
 if r.kind==5 then (match a_d b (K_ rs (B_ r)) at_ with
  | none=>.inl 1
  | some n=>if 40<n then .inl 6 else .inr (0,List.replicate n.toNat (r.kids.getD 1 0),at_+(K_ rs (B_ r)).size.toNat))
 else if r.kind==6 then .inr (0,r.kids,at_)
 else if r.kind==7 then (match a_d b (K_ rs (B_ r)) at_ with
  | none=>.inl 1
  | some n=>match b_A r.tags n with
   | none=>.inl 3
   | some k=>.inr (n,[r.kids.getD (k+1) 0],at_+(K_ rs (B_ r)).size.toNat))
 else if r.kind==8 then (match b[at_]? with
  | none=>.inl 1
  | some c=>if 1<byteI c then .inl 4 else .inr (0,List.replicate c.toNat (r.kids.getD 0 0),at_+1))
 else .inr (0,[r.kids.getD 0 0],at_)
def T_ (rd:Int->Nat->RR):List Int->Nat->List Val×Nat×Int
 | [],p=>([],p,0)
 | k::ks,p=>if (rd k p).2.2=0 then (if (T_ rd ks (rd k p).2.1).2.2=0 then ((rd k p).1::(T_ rd ks (rd k p).2.1).1,(T_ rd ks (rd k p).2.1).2.1,0) else ([],(T_ rd ks (rd k p).2.1).2.1,(T_ rd ks (rd k p).2.1).2.2)) else ([],(rd k p).2.1,(rd k p).2.2)
def b_9 (b:List UInt8)(r:g_)(num:Int)(at_:Nat)(x:List Val×Nat×Int):RR :=
 if x.2.2=0 then (if r.kind==9 then (match b[x.2.1]? with
  | none=>(zV,x.2.1,1)
  | some c=>if byteI c=c_5 (a_a b at_ x.2.1) then (⟨0,[],x.1⟩,x.2.1+1,0) else (zV,x.2.1,5)) else (⟨num,[],x.1⟩,x.2.1,0)) else (zV,x.2.1,x.2.2)
def rdB (rs:List g_)(b:List UInt8)(r:g_)(at_:Nat)(rd:Int->Nat->RR):RR :=
 if r.kind==1 then (match a_d b r at_ with | none=>(zV,at_,1) | some n=>(⟨n,[],[]⟩,at_+r.size.toNat,0))
 else if r.kind==2 then (zV,(b_n b r.bytes at_).1,(b_n b r.bytes at_).2)
 else if r.kind==3 then a_V b at_ r.size
 else if r.kind==4 then (match a_d b (K_ rs<|B_ r) at_ with | none=>(zV,at_,1) | some n=>a_V b (at_+(K_ rs<|B_ r).size.toNat) n)
 else if r.kind==10 then (match d_r b at_ (r.bytes.getD 0 0) with | none=>(zV,at_,1) | some (c,q)=>(⟨0,c,[]⟩,q,0))
 else match a_h rs b r at_ with
  | .inl c=>(zV,at_,c)
  | .inr (num,ks,st)=>b_9 b r num at_<|T_ rd ks st
def rdW (rs:List g_)(b:List UInt8)(rule:Nat)(at_:Nat):RR :=
 rdB rs b (rs.getD rule default) at_ (fun k p=>if _h:k.toNat<rule then rdW rs b k.toNat p else (zV,p,0))
termination_by rule
structure ROk (rs:List g_)(i:Nat)(r:g_):Prop where
 kids:∀k∈r.kids,0<=k/\k<(i:Int)
 kind:a_B rs r=true
 name:a_Z r.name=true
theorem c_D {d:e_}(h:a_4 d=true):1<=d.rules.length/\d.rules.length<=24:=by
 unfold a_4 at h
 simp only [aE_,dE_] at h
 omega
theorem b_R {d:e_}(h:a_4 d=true){i:Nat}(hi:i<d.rules.length):ROk d.rules i d.rules[i]:=by
 unfold a_4 at h
 rw [aE_] at h
 have h2:=h.2
 rw [Bool.not_eq_true',List.any_eq_false] at h2
 have h3:=h2 i<|List.mem_range.2 hi
 rw [Bool.not_eq_true',Bool.not_eq_false] at h3
 unfold d_I at h3
 rw [gG_ hi] at h3
 simp only [aE_,Bool.not_eq_true',List.any_eq_false] at h3
 obtain ⟨⟨h4,_⟩,_,h6,G⟩:=h3;refine ⟨fun k hk=>?_,G,h4⟩;have:=h6 k hk;unfold d_H at this
 simp only [Bool.or_eq_true,dE_] at this
 omega
section
variable {rs:List g_}{r:g_}
theorem c_u {k:Int}(h:0<lim rs k):idx rs k=some (K_ rs k)/\g_d (K_ rs k):=by
 unfold lim at h
 cases hr:idx rs k with
 | none=>rw [hr] at h;simp at h
 | some q =>
  rw [hr] at h
  simp only at h
  split at h
  ·rename_i hq
   obtain ⟨G,h1,_⟩:=a_A hr;have:K_ rs k=q:=by unfold K_;rw [gD_,h1];rfl
   rw [this]
   exact ⟨rfl,hq⟩
  ·omega
theorem g_h (h:a_B rs r=true)(hk:r.kind=1):g_d r:=by
 unfold a_B at h
 rw [hk] at h
 simp only [bQ_,fT_,aE_,dE_] at h
 exact ⟨hk,h.2.1.1,h.2.1.2⟩
theorem t_s (h:a_B rs r=true)(hk:r.kind=2):1<=r.bytes.length/\r.bytes.length<=16:=by
 unfold a_B at h
 rw [hk] at h
 simp [] at h
 omega
theorem h_x (h:a_B rs r=true)(hk:r.kind=3):1<=r.size/\r.size<=64:=by
 unfold a_B at h
 rw [hk] at h
 simp [] at h
 omega
theorem h_y (h:a_B rs r=true)(hk:r.kind=4):0<lim rs (B_ r)/\r.kids.length=1:=by
 unfold a_B at h
 rw [hk] at h
 simp only [show ((4:Int)==1)=false from rfl,show ((4:Int)==2)=false from rfl,show ((4:Int)==3)=false from rfl,bF_,fF_,bQ_,fT_,aE_,dE_] at h
 have:=d_n h.1 (by omega);exact ⟨h.2,by omega⟩
theorem e_O (h:a_B rs r=true)(hk:r.kind=5):0<lim rs (B_ r)/\r.kids.length=2:=by
 unfold a_B at h
 rw [hk] at h
 simp only [show ((5:Int)==1)=false from rfl,show ((5:Int)==2)=false from rfl,show ((5:Int)==3)=false from rfl,show ((5:Int)==4)=false from rfl,bF_,fF_,bQ_,fT_,aE_,dE_] at h
 have:=d_n h.1 (by omega);exact ⟨h.2,by omega⟩
theorem g_i (h:a_B rs r=true)(hk:r.kind=6):r.kids.length=r.names.length/\1<=r.kids.length/\r.kids.length<=8/\∀s∈r.names,a_Z s=true:=by
 unfold a_B at h
 rw [hk] at h
 simp only [show ((6:Int)==1)=false from rfl,show ((6:Int)==2)=false from rfl,show ((6:Int)==3)=false from rfl,show ((6:Int)==4)=false from rfl,show ((6:Int)==5)=false from rfl,bF_,fF_,bQ_,fT_,aE_,c_p,dE_] at h
 have h1:=d_n h.1 (by omega);refine ⟨by omega,by omega,by omega,fun s hs=>?_⟩;obtain ⟨k,hk',rfl⟩:=List.getElem_of_mem hs;have:=h.2.1
 rw [Bool.not_eq_true',List.any_eq_false] at this
 have:=this k<|List.mem_range.2 hk';unfold c_U at this
 rw [gG_ hk'] at this
 simp only [Bool.or_eq_true,Bool.not_eq_true',not_or] at this
 simpa using this.1
theorem f_t (h:a_B rs r=true)(hk:r.kind=7):0<lim rs (B_ r)/\r.kids.length=r.tags.length+1/\1<=r.tags.length/\r.tags.length<=8:=by
 unfold a_B at h
 rw [hk] at h
 simp only [show ((7:Int)==1)=false from rfl,show ((7:Int)==2)=false from rfl,show ((7:Int)==3)=false from rfl,show ((7:Int)==4)=false from rfl,show ((7:Int)==5)=false from rfl,show ((7:Int)==6)=false from rfl,bF_,fF_,bQ_,fT_,aE_,c_p,dE_] at h
 have h1:=d_n h.1 (by omega);refine ⟨?_,by omega,by omega,by omega⟩
 rcases n_w rs (B_ r) with hl | hl
 ·exfalso
  have:=h.2.2
  rw [Bool.not_eq_true',List.any_eq_false] at this
  have G:0<r.tags.length:=by omega
  have:=this 0<|List.mem_range.2 G
  rw [j_P G,hl] at this
  simp only [Bool.or_eq_true,Bool.not_eq_true',Bool.and_eq_false_iff,decide_eq_false_iff_not] at this
  omega
 ·exact hl
theorem d_N (h:a_B rs r=true)(hk:r.kind=8∨r.kind=9):r.kids.length=1:=by
 unfold a_B at h
 rcases hk with hk | hk
 ·rw [hk] at h
  simp only [show ((8:Int)==1)=false from rfl,show ((8:Int)==2)=false from rfl,show ((8:Int)==3)=false from rfl,show ((8:Int)==4)=false from rfl,show ((8:Int)==5)=false from rfl,show ((8:Int)==6)=false from rfl,show ((8:Int)==7)=false from rfl,bF_,fF_,bQ_,fT_] at h
  have:=d_n h (by omega)
  omega
 ·rw [hk] at h
  simp only [show ((9:Int)==1)=false from rfl,show ((9:Int)==2)=false from rfl,show ((9:Int)==3)=false from rfl,show ((9:Int)==4)=false from rfl,show ((9:Int)==5)=false from rfl,show ((9:Int)==6)=false from rfl,show ((9:Int)==7)=false from rfl,show ((9:Int)==8)=false from rfl,bF_,fF_,bQ_,fT_] at h
  have:=d_n h (by omega)
  omega
theorem l_X (h:a_B rs r=true)(hk:r.kind=10):r.bytes.length=1:=by
 unfold a_B at h
 rw [hk] at h
 simp [] at h
 omega
theorem g_j (h:a_B rs r=true):1<=r.kind/\r.kind<=10:=by
 unfold a_B at h
 by_cases h1:r.kind=1
 ·omega
 by_cases h2:r.kind=2
 ·omega
 by_cases h3:r.kind=3
 ·omega
 by_cases h4:r.kind=4
 ·omega
 by_cases h5:r.kind=5
 ·omega
 by_cases h6:r.kind=6
 ·omega
 by_cases H:r.kind=7
 ·omega
 by_cases I:r.kind=8
 ·omega
 by_cases J:r.kind=9
 ·omega
 by_cases G:r.kind=10
 ·omega
 simp [h1,h2,h3,h4,h5,h6,H,I,J,G] at h
theorem h_z (h:a_B rs r=true):k_4 r:=⟨fun hk=>(e_O h hk).2,fun hk=>(f_t h hk).2.1,fun hk=>d_N h<|.inl hk,fun hk=>d_N h<|.inr hk⟩
end
theorem c_h {l:List Int}{k:Nat}(h:k<l.length):l.getD k 0∈l:=by rw [a_F h];exact gE_ h
theorem l_Y {ts:List Int}{n:Int}{k:Nat}(h:b_A ts n=some k):k<ts.length:=by
 unfold b_A at h;exact List.mem_range.1<|List.mem_of_find?_eq_some h
theorem l_Z {rs:List g_}{b:List UInt8}{r:g_}{at_:Nat}(h:a_B rs r=true)(hk:5<=r.kind/\r.kind<=9)(ha:at_<=b.length){num:Int}{ks:List Int}{st:Nat}(hh:a_h rs b r at_ = .inr (num,ks,st)) :
  (∀k∈ks,k∈r.kids)/\at_<=st/\st<=b.length/\ks.length<=40/\(st=at_->r.kind=6∨r.kind=9):=by
 unfold a_h at hh
 by_cases h5:r.kind=5
 ·rw [h5] at hh
  simp only [bQ_,fT_] at hh
  have hl:=e_O h h5
  cases hi:a_d b (K_ rs<|B_ r) at_ with
  | none=>rw [hi] at hh;cases hh
  | some n =>
   rw [hi] at hh
   have hr:=(c_u hl.1).2;have hb:=c_B hr hi;obtain ⟨_,hs,_⟩:=hr
   simp only at hh
   split at hh
   ·cases hh
   ·cases hh
    refine ⟨fun k hk=>?_,by omega,by omega,by simp;omega,by omega⟩
    rw [List.eq_of_mem_replicate hk]
    exact c_h (by omega)
 rw [show (r.kind==5)=false by simpa using h5] at hh
 by_cases h6:r.kind=6
 ·rw [h6] at hh
  simp only [bF_,fF_,bQ_,fT_] at hh
  cases hh
  exact ⟨fun k hk=>hk,Nat.le_refl _,ha,by have:=g_i h h6;omega,fun _=>.inl h6⟩
 rw [show (r.kind==6)=false by simpa using h6] at hh
 by_cases G:r.kind=7
 ·rw [G] at hh
  simp only [bF_,fF_,bQ_,fT_] at hh
  have hl:=f_t h G
  cases hi:a_d b (K_ rs<|B_ r) at_ with
  | none=>rw [hi] at hh;cases hh
  | some n =>
   rw [hi] at hh
   have hr:=(c_u hl.1).2;have hb:=c_B hr hi;obtain ⟨_,hs,_⟩:=hr
   simp only at hh
   cases ht:b_A r.tags n with
   | none=>rw [ht] at hh;cases hh
   | some k =>
    rw [ht] at hh
    cases hh
    have:=l_Y ht;refine ⟨fun k' hk=>?_,by omega,by omega,by simp,by omega⟩
    rw [List.mem_singleton.1 hk]
    exact c_h (by omega)
 rw [show (r.kind==7)=false by simpa using G] at hh
 by_cases H:r.kind=8
 ·rw [H] at hh
  simp only [bF_,fF_,bQ_,fT_] at hh
  have hl:=d_N h<|.inl H
  cases hi:b[at_]? with
  | none=>rw [hi] at hh;cases hh
  | some c =>
   rw [hi] at hh
   simp only at hh
   have hlt:=(gS_.1 hi).1
   split at hh
   ·cases hh
   ·cases hh
    refine ⟨fun k hk=>?_,by omega,by omega,?_,by omega⟩
    ·rw [List.eq_of_mem_replicate hk]
     exact c_h (by omega)
    ·unfold byteI at *;simp;omega
 rw [show (r.kind==8)=false by simpa using H] at hh
 simp only [bF_,fF_] at hh
 cases hh
 have hl:=d_N h<|.inr (show r.kind=9 by omega);refine ⟨fun k hk=>?_,Nat.le_refl _,ha,by simp,fun _=>.inr (by omega)⟩
 rw [List.mem_singleton.1 hk]
 exact c_h (by omega)
theorem p_3 {rd rd':Int->Nat->RR}:∀(ks:List Int)(p:Nat),(∀k∈ks,∀p,rd k p=rd' k p)->T_ rd ks p=T_ rd' ks p
 | [],_,_=>rfl
 | k::ks,p,h=>by
  unfold T_
  rw [h k mS_ p,p_3 ks _<|fun k hk=>h k<|mT_ _ hk]
theorem h_A {rd:Int->Nat->RR}{L:Nat}:∀(ks:List Int)(p:Nat),p<=L->(∀k∈ks,∀p,p<=L->p<=(rd k p).2.1/\(rd k p).2.1<=L)->p<=(T_ rd ks p).2.1/\(T_ rd ks p).2.1<=L
 | [],p,hp,_=>⟨Nat.le_refl _,hp⟩
 | k::ks,p,hp,h=>by
  have h1:=h k mS_ p hp;have h2:=h_A (rd:=rd) ks _ h1.2<|fun k hk=>h k<|mT_ _ hk;unfold T_
  split
  ·split <;> exact ⟨by simp only;omega,by simp only;omega⟩
  ·exact h1
section
variable {d:e_}{b:List UInt8}
theorem f_u (hv:a_4 d=true){i:Nat}(hi:i<d.rules.length){at_:Nat}(ha:at_<=b.length):rdW d.rules b i at_=rdB d.rules b d.rules[i] at_ (fun k p=>rdW d.rules b k.toNat p):=by
 have hr:=b_R hv hi
 rw [rdW]
 have e:d.rules.getD i default=d.rules[i]:=by simp [hi]
 rw [e]
 have hal:=g_j hr.kind;unfold rdB
 by_cases hk:5<=d.rules[i].kind/\d.rules[i].kind<=9
 ·cases hh:a_h d.rules b d.rules[i] at_ with
  | inl c=>rfl
  | inr x =>
   obtain ⟨num,ks,st⟩:=x;have hks:=(l_Z hr.kind hk ha hh).1
   simp only
   rw [p_3 ks st (fun k hk p=>by
    have:=hr.kids k<|hks k hk
    rw [dif_pos (by omega)])]
 ·have:d.rules[i].kind=1∨d.rules[i].kind=2∨d.rules[i].kind=3∨d.rules[i].kind=4∨d.rules[i].kind=10:=by omega
  rcases this with h | h | h | h | h <;> rw [h] <;> rfl
theorem d_1 (hv:a_4 d=true):∀(i:Nat),i<d.rules.length->∀at_,at_<=b.length->at_<=(rdW d.rules b i at_).2.1/\(rdW d.rules b i at_).2.1<=b.length:=by
 intro i
 induction i using Nat.strongRecOn with
 | _ i ih =>
  intro hi at_ ha
  rw [f_u hv hi ha]
  have hr:=b_R hv hi;have hal:=g_j hr.kind;generalize hrr:d.rules[i]=r at *
  unfold rdB
  by_cases h1:r.kind=1
  ·rw [h1];simp only [bQ_,fT_]
   cases hd:a_d b r at_ with
   | none=>exact ⟨Nat.le_refl _,ha⟩
   | some n=>have:=c_B (g_h hr.kind h1) hd;exact ⟨by simp only;omega,by simp only;omega⟩
  rw [show (r.kind==1)=false by simpa using h1]
  by_cases h2:r.kind=2
  ·rw [h2];exact s_D ha _
  rw [show (r.kind==2)=false by simpa using h2]
  have hby:∀p n,p<=b.length->at_<=p->0<=n->at_<=(a_V b p n).2.1/\(a_V b p n).2.1<=b.length:=by
   intro p n hp hap hn;unfold a_V
   split
   ·exact ⟨hap,hp⟩
   ·exact ⟨by simp only;omega,by simp only;omega⟩
  by_cases h3:r.kind=3
  ·rw [h3];exact hby at_ r.size ha (Nat.le_refl _) (by have:=h_x hr.kind h3;omega)
  rw [show (r.kind==3)=false by simpa using h3]
  by_cases h4:r.kind=4
  ·rw [h4];simp only [bF_,fF_,bQ_,fT_]
   cases hd:a_d b (K_ d.rules<|B_ r) at_ with
   | none=>exact ⟨Nat.le_refl _,ha⟩
   | some n =>
    have:=c_B (c_u (h_y hr.kind h4).1).2 hd;exact hby _ n (by omega) (by omega) this.1
  rw [show (r.kind==4)=false by simpa using h4]
  by_cases h:r.kind=10
  ·rw [h];simp only [bF_,fF_,bQ_,fT_]
   cases hd:d_r b at_ (r.bytes.getD 0 0) with
   | none=>exact ⟨Nat.le_refl _,ha⟩
   | some x =>
    have:=j_W _ _ _ _ _ hd;exact ⟨by simp only;omega,by simp only;omega⟩
  rw [show (r.kind==10)=false by simpa using h]
  simp only [bF_,fF_]
  cases hh:a_h d.rules b r at_ with
  | inl c=>exact ⟨Nat.le_refl _,ha⟩
  | inr x =>
   obtain ⟨num,ks,st⟩:=x;have hks:=l_Z hr.kind (by omega) ha hh
   have hit:=h_A (rd:=fun k p=>rdW d.rules b k.toNat p) (L:=b.length) ks st hks.2.2.1 (fun k hk p hp=>by
    have:=hr.kids k<|hks.1 k hk
    exact ih k.toNat (by omega) (by omega) p hp)
   simp only
   generalize T_ (fun k p=>rdW d.rules b k.toNat p) ks st=x at hit
   unfold b_9
   split
   ·split
    ·cases hb:b[x.2.1]? with
     | none=>exact ⟨by simp only;omega,hit.2⟩
     | some c =>
      have:=(gS_.1 hb).1
      simp only
      split
      ·exact ⟨by simp only;omega,by simp only;omega⟩
      ·exact ⟨by simp only;omega,hit.2⟩
    ·exact ⟨by simp only;omega,hit.2⟩
   ·exact ⟨by simp only;omega,hit.2⟩
end
end Go.Vw
