import Derived.Test.YtahlbmonbflopaaGreatDoorV2
namespace Go.Vw
open Go.RowKit Dat
abbrev zV:Val:=⟨0,([]:Bt),([]:List Val)⟩
theorem a_7:LIM=4294967296:=rfl
theorem MXv:MX=1048576:=rfl
def b_5 (b:Bt)(p q:Nat):Bt:=(b.take q).drop p
theorem i_i {b:Bt}{p q:Nat}(h1:p<=q)(h2:q<=b.length):slc b (p:Int) (q:Int)=some (b_5 b p q):=by
 rw [g_f (by omega) (by omega) (by omega)];rfl
theorem d_Y {b:Bt}{p q:Nat}(h2:q<=b.length):(b_5 b p q).length=q - p:=by
 unfold b_5;simp;omega
def a_k (b:Bt)(r:b_)(at_:Nat):Option Int:=if (b.length:Int) - at_<r.size then none else some (d_o (b_5 b at_<|at_+r.size.toNat) r.little)
def d_p (r:b_):Prop:=r.kind=1/\1<=r.size/\r.size<=4
theorem d_4 {b:Bt}{r:b_}{at_:Nat}{n:Int}(hr:d_p r)(h:a_k b r at_=some n):0<=n/\n<4294967296/\at_+r.size.toNat<=b.length:=by
 unfold a_k at h
 split at h
 .cases h
 .obtain ⟨_,h1,h4⟩:=hr
  cases Option.some.inj h
  have:=q_t (b_5 b at_<|at_+r.size.toNat) r.little (by rw [d_Y (by omega)];omega);exact ⟨this.1,this.2,by omega⟩
section
variable {d:c_}{b:Bt}{r:b_}{k:Int}{at_:Nat}
theorem k_R (hk:idx d.rules k=some r)(hr:d_p r)(hb:b.length<=MX)(ha:at_<=b.length) :
  g_m d k b at_=some (match a_k b r at_ with | none=>(0,(at_:Int),false) | some n=>(n,((at_+r.size.toNat:Nat):Int),true)):=by
 have hMX:=MXv;obtain ⟨_,h1,h4⟩:=hr;unfold g_m a_k
 rw [hk,bd_some,a_C (x:=(b.length:Int)) (by omega) (by omega),ia_ (x:=(at_:Int)) (by omega) (by omega)]
 by_cases h:(b.length:Int) - at_<r.size
 .rw [dT_ h,iP_ rfl,iP_ h]
 .rw [dF_ h,iN_ (by simp),iN_ h,show (at_:Int)+r.size=((at_+r.size.toNat:Nat):Int) by omega,i_i (by omega) (by omega),bd_some,q_u _ _ (by rw [d_Y (by omega)];omega)]
  rfl
theorem j_F {n:Int}(hb:b.length<=MX)(ha:at_<=b.length)(G:0<=n)(hn:n<4294967296) :
  f_b ⟨d,b⟩ at_ n=some (if (b.length:Int) - at_<n then ([],some ((at_:Int),1)) else (b_5 b at_<|at_+n.toNat,none)):=by
 have hMX:=MXv;unfold f_b b_Y
 simp only
 rw [a_C (x:=(b.length:Int)) (by omega) (by omega),ia_ (x:=(at_:Int)) (by omega) (by omega)]
 by_cases h:(b.length:Int) - at_<n
 .rw [dT_ h,iP_ rfl,iP_ h];rfl
 .rw [dF_ h,iN_ (by simp),iN_ h,show (at_:Int)+n=((at_+n.toNat:Nat):Int) by omega,i_i (by omega) (by omega)];rfl
theorem j_G (hk:idx d.rules k=some r)(hr:d_p r)(hb:b.length<=MX)(ha:at_<=b.length) :
  f_c ⟨d,b⟩ k at_=some (match a_k b r at_ with | none=>(0,(at_:Int),some ((at_:Int),1)) | some n=>(n,((at_+r.size.toNat:Nat):Int),none)):=by
 have hMX:=MXv;obtain ⟨_,h1,h4⟩:=hr;unfold f_c a_k
 simp only
 rw [hk,bd_some,j_F hb ha (by omega) (by omega)]
 by_cases h:(b.length:Int) - at_<r.size
 .rw [iP_ h,iP_ h];rfl
 .rw [iN_ h,iN_ h]
  simp only [bd2_some]
  rw [q_v _ _ (by rw [d_Y (by omega)];omega),ia_ (by omega) (by omega),show (at_:Int)+r.size=((at_+r.size.toNat:Nat):Int) by omega]
  rfl
def b_N (b bs:Bt)(at_ k:Nat):Bool:=match b[at_+k]? with
 | none=>true
 | some c=>byteI c != byteI (bs.getD k 0)
def b_v (b bs:Bt)(at_:Nat):Nat×Int:=match (List.range bs.length).find? (b_N b bs at_) with
 | none=>(at_+bs.length,0)
 | some k=>if b.length<=at_+k then (at_,1) else (at_+k,2)
theorem q_A (hb:b.length<=MX)(ha:at_<=b.length)(hr:r.bytes.length<=MX):i_A r b at_=some (zV,((b_v b r.bytes at_).1:Int),(b_v b r.bytes at_).2):=by
 have hMX:=MXv;unfold i_A b_v
 rw [i_q (b_N b r.bytes at_) (λk=>if b.length<=at_+k then (zV,(at_:Int),(1:Int)) else (zV,((at_+k:Nat):Int),2))]
 .rw [ia_ (x:=(at_:Int)) (by omega) (by omega)]
  cases (List.range r.bytes.length).find? (b_N b r.bytes at_) with
  | none=>simp only [bd_some,el_inl];congr 3
  | some k =>
   simp only [bd_some,el_inr]
   split <;> rfl
 .intro k hk _
  rw [ia_ (x:=(at_:Int)) (by omega) (by omega),show (at_:Int)+k=((at_+k:Nat):Int) by omega,ix_ hk]
  by_cases h:at_+k<b.length
  .rw [dF_ (by omega),ix_ h,show b_N b r.bytes at_ k=(byteI b[at_+k] != byteI r.bytes[k]) by unfold b_N;rw [gG_ h,a_8 hk]]
   rw [iN_ (show ¬b.length<=at_+k by omega)]
   simp only [bd_some,bF_,fF_]
   exact d_X _ _
  .rw [dT_ (by omega),show b_N b r.bytes at_ k=true by unfold b_N;rw [gN_ (by omega)]]
   rw [iP_ (show b.length<=at_+k by omega)]
   rfl
theorem q_B (hb:b.length<=MX)(ha:at_<=b.length)(hr:r.bytes.length<=MX):i_O ⟨d,b⟩ r at_=some (if (b_v b r.bytes at_).2=0 then (((b_v b r.bytes at_).1:Int),none) else ((at_:Int),some (((b_v b r.bytes at_).1:Int),(b_v b r.bytes at_).2))):=by
 have hMX:=MXv;unfold i_O b_v b_Y
 simp only
 rw [i_q (b_N b r.bytes at_) (λk=>if b.length<=at_+k then ((at_:Int),some ((at_:Int),(1:Int))) else ((at_:Int),some (((at_+k:Nat):Int),2)))]
 .rw [ia_ (x:=(at_:Int)) (by omega) (by omega)]
  cases (List.range r.bytes.length).find? (b_N b r.bytes at_) with
  | none=>rfl
  | some k =>
   simp only [bd_some,el_inr]
   by_cases h:b.length<=at_+k
   .rw [iP_ h,iP_ h];rfl
   .rw [iN_ h,iN_ h];rfl
 .intro k hk _
  rw [ia_ (x:=(at_:Int)) (by omega) (by omega),show (at_:Int)+k=((at_+k:Nat):Int) by omega,ix_ hk]
  by_cases h:at_+k<b.length
  .rw [bd_some,dF_ (by omega),ix_ h,show b_N b r.bytes at_ k=(byteI b[at_+k] != byteI r.bytes[k]) by unfold b_N;rw [gG_ h,a_8 hk]]
   rw [iN_ (show ¬b.length<=at_+k by omega)]
   simp only [bd_some,bF_,fF_]
   exact d_X _ _
  .rw [bd_some,dT_ (by omega),show b_N b r.bytes at_ k=true by unfold b_N;rw [gN_ (by omega)]]
   rw [iP_ (show b.length<=at_+k by omega)]
   rfl
theorem q_C (ha:at_<=b.length)(bs:Bt):at_<=(b_v b bs at_).1/\(b_v b bs at_).1<=b.length:=by
 unfold b_v
 cases hf:(List.range bs.length).find? (b_N b bs at_) with
 | none =>
  simp only
  refine ⟨by omega,?_⟩
  cases hl:bs.length with
  | zero=>omega
  | succ m =>
   have:=List.find?_eq_none.1 hf m<|List.mem_range.2 (by omega);unfold b_N at this
   by_cases h:at_+m<b.length
   .omega
   .rw [gN_ (by omega)] at this;simp at this
 | some k =>
  simp only
  split
  .exact ⟨Nat.le_refl _,ha⟩
  .exact ⟨by omega,by omega⟩
theorem q_D {bs:Bt}(h:(b_v b bs at_).2=0):(b_v b bs at_).1=at_+bs.length:=by
 unfold b_v at *
 cases hf:(List.range bs.length).find? (b_N b bs at_) with
 | none=>rfl
 | some k =>
  rw [hf] at h
  simp only at h
  split at h <;> cases h
def a_R (b:Bt)(at_:Nat)(n:Int):Val×Nat×Int:=if (b.length:Int) - at_<n then (zV,at_,1) else (⟨0,b_5 b at_<|at_+n.toNat,[]⟩,at_+n.toNat,0)
theorem n_1 {n:Int}(hb:b.length<=MX)(ha:at_<=b.length)(G:0<=n)(hn:n<4294967296):h_n b at_ n=some ((a_R b at_ n).1,((a_R b at_ n).2.1:Int),(a_R b at_ n).2.2):=by
 have hMX:=MXv;unfold h_n a_R
 rw [a_C (x:=(b.length:Int)) (by omega) (by omega),ia_ (x:=(at_:Int)) (by omega) (by omega)]
 by_cases h:(b.length:Int) - at_<n
 .rw [dT_ h,iP_ rfl,iP_ h]
 .rw [dF_ h,iN_ (by simp),iN_ h,show (at_:Int)+n=((at_+n.toNat:Nat):Int) by omega,i_i (by omega) (by omega),bd_some,a_T (by rw [d_Y (by omega)];simp [a_7];omega)]
  simp
theorem n_2 {n:Int}(hb:b.length<=MX)(ha:at_<=b.length)(G:0<=n)(hn:n<4294967296):h_t ⟨d,b⟩ at_ n=some (if (a_R b at_ n).2.2=0 then ((a_R b at_ n).1,((a_R b at_ n).2.1:Int),none) else (zV,(at_:Int),some (((a_R b at_ n).2.1:Int),(a_R b at_ n).2.2))):=by
 have hMX:=MXv;unfold h_t a_R
 rw [j_F hb ha G hn]
 by_cases h:(b.length:Int) - at_<n
 .rw [iP_ h,iP_ h];rfl
 .rw [iN_ h,iN_ h]
  simp only [bd2_some]
  rw [a_T (by rw [d_Y (by omega)];simp [a_7];omega),ia_ (x:=(at_:Int)) (by omega) (by omega),show (at_:Int)+n=((at_+n.toNat:Nat):Int) by omega]
  rfl
end
def a_H (ts:List Int)(n:Int):Option Nat:=(List.range ts.length).find? (λk=>ts.getD k 0==n)
def P_ (r:b_)(num:Int)(i:Nat):Int :=
 if r.kind==5 then r.kids.getD 1 0
 else if r.kind==6 then (if i<r.kids.length then r.kids.getD i 0 else -1)
 else if r.kind==7 then (match a_H r.tags num with | some k=>r.kids.getD (k+1) 0 | none=>-1)
 else if r.kind==8 then r.kids.getD 0 0
 else if r.kind==9 then r.kids.getD 0 0
 else -1
structure e_Y (r:b_):Prop where
 arr:r.kind=5->r.kids.length=2
 cho:r.kind=7->r.kids.length=r.tags.length+1
 opt:r.kind=8->r.kids.length=1
 chk:r.kind=9->r.kids.length=1
theorem q_E {r:b_}{num:Int}(h:r.kids.length=r.tags.length+1):y_ (σ:=Unit) (ρ:=Int) (λG=>(λ(_:Unit)=>bd (idx r.tags ((G:Nat):Int)) λH=>if (H==num) then bd (idx r.kids ((G+1:Nat):Int)) λI=>some (.ret I) else some (.next ()))) r.tags.length 0 ()=some (match a_H r.tags num with | some k=>.inr (r.kids.getD (k+1) 0) | none=>.inl ()):=by
 unfold a_H
 rw [i_q (λk=>r.tags.getD k 0==num) (λk=>r.kids.getD (k+1) 0)]
 .cases (List.range r.tags.length).find? (λk=>r.tags.getD k 0==num) <;> rfl
 .intro k hk _
  rw [ix_ hk,bd_some,a_8 hk,ix_ (show k+1<r.kids.length by omega),bd_some,a_8 (show k+1<r.kids.length by omega)]
  by_cases h:r.tags[k]=num
  .rw [show (r.tags[k]==num)=true by simpa using h];rfl
  .rw [show (r.tags[k]==num)=false by simpa using h];rfl
theorem d_q {r:b_}(h:e_Y r)(num:Int)(i:Nat):b_r r num i=some (P_ r num i):=by
 unfold b_r P_
 by_cases h5:r.kind=5
 .rw [h5];simp only [bQ_,fT_]
  rw [e_4 (by have:=h.arr h5;omega),a_8 (by have:=h.arr h5;omega)];rfl
 .rw [show (r.kind==5)=false by simpa using h5]
  simp only [bF_,fF_]
  by_cases h6:r.kind=6
  .rw [h6];simp only [bQ_,fT_]
   by_cases hi:i<r.kids.length
   .rw [dT_ (by omega),ix_ hi,a_8 hi,iP_ rfl,iP_ hi];rfl
   .rw [dF_ (by omega),iN_ (by simp),iN_ hi];rfl
  .rw [show (r.kind==6)=false by simpa using h6]
   simp only [bF_,fF_]
   by_cases I:r.kind=7
   .rw [I];simp only [bQ_,fT_]
    rw [q_E (h.cho I)]
    cases a_H r.tags num <;> rfl
   .rw [show (r.kind==7)=false by simpa using I]
    simp only [bF_,fF_]
    by_cases G:r.kind=8
    .rw [G];simp only [bQ_,fT_,bd_some]
     rw [a_h (by have:=h.opt G;omega),a_8 (by have:=h.opt G;omega)];rfl
    .rw [show (r.kind==8)=false by simpa using G]
     simp only [bF_,fF_]
     by_cases H:r.kind=9
     .rw [H];simp only [bQ_,fT_,bd_some]
      rw [a_h (by have:=h.chk H;omega),a_8 (by have:=h.chk H;omega)];rfl
     .rw [show (r.kind==9)=false by simpa using H];rfl
theorem j_H {d:c_}{k:Int}{r:b_}(hk:idx d.rules k=some r)(h:e_Y r)(v:Val)(i:Nat):f_e d k v i=some (P_ r v.number i):=by
 rw [← d_q h v.number i]
 unfold f_e b_r
 rw [hk];rfl
end Go.Vw
namespace Go.Vw
open Go.RowKit Dat
abbrev RR:=Val×Nat×Int
def O_ (rs:List b_)(k:Int):b_:=rs.getD k.toNat default
def a_r (rs:List b_)(b:Bt)(r:b_)(at_:Nat):Sum Int (Int×List Int×Nat) :=
 if r.kind==5 then (match a_k b (O_ rs (o_ r)) at_ with
  | none=>.inl 1
  | some n=>if 40<n then .inl 6 else .inr (0,List.replicate n.toNat (r.kids.getD 1 0),at_+(O_ rs (o_ r)).size.toNat))
 else if r.kind==6 then .inr (0,r.kids,at_)
 else if r.kind==7 then (match a_k b (O_ rs (o_ r)) at_ with
  | none=>.inl 1
  | some n=>match a_H r.tags n with
   | none=>.inl 3
   | some k=>.inr (n,[r.kids.getD (k+1) 0],at_+(O_ rs (o_ r)).size.toNat))
 else if r.kind==8 then (match b[at_]? with
  | none=>.inl 1
  | some c=>if 1<byteI c then .inl 4 else .inr (0,List.replicate c.toNat (r.kids.getD 0 0),at_+1))
 else .inr (0,[r.kids.getD 0 0],at_)
def a_c (rd:Int->Nat->RR):List Int->Nat->List Val×Nat×Int
 | [],p=>([],p,0)
 | k::ks,p=>if (rd k p).2.2=0 then (if (a_c rd ks (rd k p).2.1).2.2=0 then ((rd k p).1::(a_c rd ks (rd k p).2.1).1,(a_c rd ks (rd k p).2.1).2.1,0) else ([],(a_c rd ks (rd k p).2.1).2.1,(a_c rd ks (rd k p).2.1).2.2)) else ([],(rd k p).2.1,(rd k p).2.2)
def a_W (b:Bt)(r:b_)(num:Int)(at_:Nat)(x:List Val×Nat×Int):RR :=
 if x.2.2=0 then (if r.kind==9 then (match b[x.2.1]? with
  | none=>(zV,x.2.1,1)
  | some c=>if byteI c=b_E (b_5 b at_ x.2.1) then (⟨0,[],x.1⟩,x.2.1+1,0) else (zV,x.2.1,5)) else (⟨num,[],x.1⟩,x.2.1,0)) else (zV,x.2.1,x.2.2)
def rdB (rs:List b_)(b:Bt)(r:b_)(at_:Nat)(rd:Int->Nat->RR):RR :=
 if r.kind==1 then (match a_k b r at_ with | none=>(zV,at_,1) | some n=>(⟨n,[],[]⟩,at_+r.size.toNat,0))
 else if r.kind==2 then (zV,(b_v b r.bytes at_).1,(b_v b r.bytes at_).2)
 else if r.kind==3 then a_R b at_ r.size
 else if r.kind==4 then (match a_k b (O_ rs<|o_ r) at_ with | none=>(zV,at_,1) | some n=>a_R b (at_+(O_ rs<|o_ r).size.toNat) n)
 else if r.kind==10 then (match c_w b at_ (r.bytes.getD 0 0) with | none=>(zV,at_,1) | some (c,q)=>(⟨0,c,[]⟩,q,0))
 else match a_r rs b r at_ with
  | .inl c=>(zV,at_,c)
  | .inr (num,ks,st)=>a_W b r num at_<|a_c rd ks st
def rdW (rs:List b_)(b:Bt)(rule:Nat)(at_:Nat):RR :=
 rdB rs b (rs.getD rule default) at_ (λk p=>if _h:k.toNat<rule then rdW rs b k.toNat p else (zV,p,0))
termination_by rule
structure ROk (rs:List b_)(i:Nat)(r:b_):Prop where
 kids:∀k∈r.kids,0<=k/\k<(i:Int)
 kind:a_2 rs r=true
 name:b_L r.name=true
theorem b_X {d:c_}(h:R_ d=true):1<=d.rules.length/\d.rules.length<=24:=by
 unfold R_ at h
 simp only [aE_,dE_] at h
 omega
theorem a_S {d:c_}(h:R_ d=true){i:Nat}(hi:i<d.rules.length):ROk d.rules i d.rules[i]:=by
 unfold R_ at h
 rw [aE_] at h
 have h2:=h.2
 rw [Bool.not_eq_true',List.any_eq_false] at h2
 have h3:=h2 i<|List.mem_range.2 hi
 rw [Bool.not_eq_true',Bool.not_eq_false] at h3
 unfold d_2 at h3
 rw [gG_ hi] at h3
 simp only [aE_,Bool.not_eq_true',List.any_eq_false] at h3
 obtain ⟨⟨h4,_⟩,_,h6,G⟩:=h3;refine ⟨λk hk=>?_,G,h4⟩;have:=h6 k hk;unfold c_H at this
 simp only [Bool.or_eq_true,dE_] at this
 omega
section
variable {rs:List b_}{r:b_}
theorem d_r {k:Int}(h:0<lim rs k):idx rs k=some (O_ rs k)/\d_p (O_ rs k):=by
 unfold lim at h
 cases hr:idx rs k with
 | none=>rw [hr] at h;simp at h
 | some q =>
  rw [hr] at h
  simp only at h
  split at h
  .rename_i hq
   obtain ⟨G,h1,_⟩:=b_e hr;have:O_ rs k=q:=by unfold O_;rw [gD_,h1];rfl
   rw [this]
   exact ⟨rfl,hq⟩
  .omega
theorem c_J (h:a_2 rs r=true)(hk:r.kind=1):d_p r:=by
 unfold a_2 at h
 rw [hk] at h
 simp only [bQ_,fT_,aE_,dE_] at h
 exact ⟨hk,h.2.1.1,h.2.1.2⟩
theorem n_4 (h:a_2 rs r=true)(hk:r.kind=2):1<=r.bytes.length/\r.bytes.length<=16:=by
 unfold a_2 at h
 rw [hk] at h
 simp [] at h
 omega
theorem d_s (h:a_2 rs r=true)(hk:r.kind=3):1<=r.size/\r.size<=64:=by
 unfold a_2 at h
 rw [hk] at h
 simp [] at h
 omega
theorem d_6 (h:a_2 rs r=true)(hk:r.kind=4):0<lim rs (o_ r)/\r.kids.length=1:=by
 unfold a_2 at h
 rw [hk] at h
 simp only [show ((4:Int)==1)=false from rfl,show ((4:Int)==2)=false from rfl,show ((4:Int)==3)=false from rfl,bF_,fF_,bQ_,fT_,aE_,dE_] at h
 have:=d_0 h.1 (by omega);exact ⟨h.2,by omega⟩
theorem c_5 (h:a_2 rs r=true)(hk:r.kind=5):0<lim rs (o_ r)/\r.kids.length=2:=by
 unfold a_2 at h
 rw [hk] at h
 simp only [show ((5:Int)==1)=false from rfl,show ((5:Int)==2)=false from rfl,show ((5:Int)==3)=false from rfl,show ((5:Int)==4)=false from rfl,bF_,fF_,bQ_,fT_,aE_,dE_] at h
 have:=d_0 h.1 (by omega);exact ⟨h.2,by omega⟩
theorem d_t (h:a_2 rs r=true)(hk:r.kind=6):r.kids.length=r.names.length/\1<=r.kids.length/\r.kids.length<=8/\∀s∈r.names,b_L s=true:=by
 unfold a_2 at h
 rw [hk] at h
 simp only [show ((6:Int)==1)=false from rfl,show ((6:Int)==2)=false from rfl,show ((6:Int)==3)=false from rfl,show ((6:Int)==4)=false from rfl,show ((6:Int)==5)=false from rfl,bF_,fF_,bQ_,fT_,aE_,b_W,dE_] at h
 have h1:=d_0 h.1 (by omega);refine ⟨by omega,by omega,by omega,λs hs=>?_⟩;obtain ⟨k,hk',rfl⟩:=List.getElem_of_mem hs;have:=h.2.1
 rw [Bool.not_eq_true',List.any_eq_false] at this
 have:=this k<|List.mem_range.2 hk';unfold b_M at this
 rw [gG_ hk'] at this
 simp only [Bool.or_eq_true,Bool.not_eq_true',not_or] at this
 simpa using this.1
theorem c_6 (h:a_2 rs r=true)(hk:r.kind=7):0<lim rs (o_ r)/\r.kids.length=r.tags.length+1/\1<=r.tags.length/\r.tags.length<=8:=by
 unfold a_2 at h
 rw [hk] at h
 simp only [show ((7:Int)==1)=false from rfl,show ((7:Int)==2)=false from rfl,show ((7:Int)==3)=false from rfl,show ((7:Int)==4)=false from rfl,show ((7:Int)==5)=false from rfl,show ((7:Int)==6)=false from rfl,bF_,fF_,bQ_,fT_,aE_,b_W,dE_] at h
 have h1:=d_0 h.1 (by omega);refine ⟨?_,by omega,by omega,by omega⟩
 rcases m_t rs (o_ r) with hl | hl
 .exfalso
  have:=h.2.2
  rw [Bool.not_eq_true',List.any_eq_false] at this
  have G:0<r.tags.length:=by omega
  have:=this 0<|List.mem_range.2 G
  rw [i_d G,hl] at this
  simp only [Bool.or_eq_true,Bool.not_eq_true',Bool.and_eq_false_iff,decide_eq_false_iff_not] at this
  omega
 .exact hl
theorem b_F (h:a_2 rs r=true)(hk:r.kind=8∨r.kind=9):r.kids.length=1:=by
 unfold a_2 at h
 rcases hk with hk | hk
 .rw [hk] at h
  simp only [show ((8:Int)==1)=false from rfl,show ((8:Int)==2)=false from rfl,show ((8:Int)==3)=false from rfl,show ((8:Int)==4)=false from rfl,show ((8:Int)==5)=false from rfl,show ((8:Int)==6)=false from rfl,show ((8:Int)==7)=false from rfl,bF_,fF_,bQ_,fT_] at h
  have:=d_0 h (by omega)
  omega
 .rw [hk] at h
  simp only [show ((9:Int)==1)=false from rfl,show ((9:Int)==2)=false from rfl,show ((9:Int)==3)=false from rfl,show ((9:Int)==4)=false from rfl,show ((9:Int)==5)=false from rfl,show ((9:Int)==6)=false from rfl,show ((9:Int)==7)=false from rfl,show ((9:Int)==8)=false from rfl,bF_,fF_,bQ_,fT_] at h
  have:=d_0 h (by omega)
  omega
theorem k_S (h:a_2 rs r=true)(hk:r.kind=10):r.bytes.length=1:=by
 unfold a_2 at h
 rw [hk] at h
 simp [] at h
 omega
theorem d_Z (h:a_2 rs r=true):1<=r.kind/\r.kind<=10:=by
 unfold a_2 at h
 by_cases h1:r.kind=1
 .omega
 by_cases h2:r.kind=2
 .omega
 by_cases h3:r.kind=3
 .omega
 by_cases h4:r.kind=4
 .omega
 by_cases h5:r.kind=5
 .omega
 by_cases h6:r.kind=6
 .omega
 by_cases H:r.kind=7
 .omega
 by_cases I:r.kind=8
 .omega
 by_cases J:r.kind=9
 .omega
 by_cases G:r.kind=10
 .omega
 simp [h1,h2,h3,h4,h5,h6,H,I,J,G] at h
theorem c_7 (h:a_2 rs r=true):e_Y r:=⟨λhk=>(c_5 h hk).2,λhk=>(c_6 h hk).2.1,λhk=>b_F h<|.inl hk,λhk=>b_F h<|.inr hk⟩
end
theorem c_K {l:List Int}{k:Nat}(h:k<l.length):l.getD k 0∈l:=by rw [a_8 h];exact gE_ h
theorem h_c {ts:List Int}{n:Int}{k:Nat}(h:a_H ts n=some k):k<ts.length:=by
 unfold a_H at h;exact List.mem_range.1<|List.mem_of_find?_eq_some h
theorem k_T {rs:List b_}{b:Bt}{r:b_}{at_:Nat}(h:a_2 rs r=true)(hk:5<=r.kind/\r.kind<=9)(ha:at_<=b.length){num:Int}{ks:List Int}{st:Nat}(hh:a_r rs b r at_ = .inr (num,ks,st)) :
  (∀k∈ks,k∈r.kids)/\at_<=st/\st<=b.length/\ks.length<=40/\(st=at_->r.kind=6∨r.kind=9):=by
 unfold a_r at hh
 by_cases h5:r.kind=5
 .rw [h5] at hh
  simp only [bQ_,fT_] at hh
  have hl:=c_5 h h5
  cases hi:a_k b (O_ rs<|o_ r) at_ with
  | none=>rw [hi] at hh;cases hh
  | some n =>
   rw [hi] at hh
   have hr:=(d_r hl.1).2;have hb:=d_4 hr hi;obtain ⟨_,hs,_⟩:=hr
   simp only at hh
   split at hh
   .cases hh
   .cases hh
    refine ⟨λk hk=>?_,by omega,by omega,by simp;omega,by omega⟩
    rw [List.eq_of_mem_replicate hk]
    exact c_K (by omega)
 rw [show (r.kind==5)=false by simpa using h5] at hh
 by_cases h6:r.kind=6
 .rw [h6] at hh
  simp only [bF_,fF_,bQ_,fT_] at hh
  cases hh
  exact ⟨λk hk=>hk,Nat.le_refl _,ha,by have:=d_t h h6;omega,λ_=>.inl h6⟩
 rw [show (r.kind==6)=false by simpa using h6] at hh
 by_cases G:r.kind=7
 .rw [G] at hh
  simp only [bF_,fF_,bQ_,fT_] at hh
  have hl:=c_6 h G
  cases hi:a_k b (O_ rs<|o_ r) at_ with
  | none=>rw [hi] at hh;cases hh
  | some n =>
   rw [hi] at hh
   have hr:=(d_r hl.1).2;have hb:=d_4 hr hi;obtain ⟨_,hs,_⟩:=hr
   simp only at hh
   cases ht:a_H r.tags n with
   | none=>rw [ht] at hh;cases hh
   | some k =>
    rw [ht] at hh
    cases hh
    have:=h_c ht;refine ⟨λk' hk=>?_,by omega,by omega,by simp,by omega⟩
    rw [List.mem_singleton.1 hk]
    exact c_K (by omega)
 rw [show (r.kind==7)=false by simpa using G] at hh
 by_cases H:r.kind=8
 .rw [H] at hh
  simp only [bF_,fF_,bQ_,fT_] at hh
  have hl:=b_F h<|.inl H
  cases hi:b[at_]? with
  | none=>rw [hi] at hh;cases hh
  | some c =>
   rw [hi] at hh
   simp only at hh
   have hlt:=(gS_.1 hi).1
   split at hh
   .cases hh
   .cases hh
    refine ⟨λk hk=>?_,by omega,by omega,?_,by omega⟩
    .rw [List.eq_of_mem_replicate hk]
     exact c_K (by omega)
    .unfold byteI at *;simp;omega
 rw [show (r.kind==8)=false by simpa using H] at hh
 simp only [bF_,fF_] at hh
 cases hh
 have hl:=b_F h<|.inr (show r.kind=9 by omega);refine ⟨λk hk=>?_,Nat.le_refl _,ha,by simp,λ_=>.inr (by omega)⟩
 rw [List.mem_singleton.1 hk]
 exact c_K (by omega)
theorem n_5 {rd rd':Int->Nat->RR}:∀(ks:List Int)(p:Nat),(∀k∈ks,∀p,rd k p=rd' k p)->a_c rd ks p=a_c rd' ks p
 | [],_,_=>rfl
 | k::ks,p,h=>by
  unfold a_c
  rw [h k mS_ p,n_5 ks _<|λk hk=>h k<|mT_ _ hk]
theorem i_j {rd:Int->Nat->RR}{L:Nat}:∀(ks:List Int)(p:Nat),p<=L->(∀k∈ks,∀p,p<=L->p<=(rd k p).2.1/\(rd k p).2.1<=L)->p<=(a_c rd ks p).2.1/\(a_c rd ks p).2.1<=L
 | [],p,hp,_=>⟨Nat.le_refl _,hp⟩
 | k::ks,p,hp,h=>by
  have h1:=h k mS_ p hp;have h2:=i_j (rd:=rd) ks _ h1.2<|λk hk=>h k<|mT_ _ hk;unfold a_c
  split
  .split <;> exact ⟨by simp only;omega,by simp only;omega⟩
  .exact h1
section
variable {d:c_}{b:Bt}
theorem h_d (hv:R_ d=true){i:Nat}(hi:i<d.rules.length){at_:Nat}(ha:at_<=b.length):rdW d.rules b i at_=rdB d.rules b d.rules[i] at_ (λk p=>rdW d.rules b k.toNat p):=by
 have hr:=a_S hv hi
 rw [rdW]
 have e:d.rules.getD i default=d.rules[i]:=by simp [hi]
 rw [e]
 have hal:=d_Z hr.kind;unfold rdB
 by_cases hk:5<=d.rules[i].kind/\d.rules[i].kind<=9
 .cases hh:a_r d.rules b d.rules[i] at_ with
  | inl c=>rfl
  | inr x =>
   obtain ⟨num,ks,st⟩:=x;have hks:=(k_T hr.kind hk ha hh).1
   simp only
   rw [n_5 ks st (λk hk p=>by
    have:=hr.kids k<|hks k hk
    rw [dif_pos (by omega)])]
 .have:d.rules[i].kind=1∨d.rules[i].kind=2∨d.rules[i].kind=3∨d.rules[i].kind=4∨d.rules[i].kind=10:=by omega
  rcases this with h | h | h | h | h <;> rw [h] <;> rfl
theorem d_7 (hv:R_ d=true):∀(i:Nat),i<d.rules.length->∀at_,at_<=b.length->at_<=(rdW d.rules b i at_).2.1/\(rdW d.rules b i at_).2.1<=b.length:=by
 intro i
 induction i using Nat.strongRecOn with
 | _ i ih =>
  intro hi at_ ha
  rw [h_d hv hi ha]
  have hr:=a_S hv hi;have hal:=d_Z hr.kind;generalize hrr:d.rules[i]=r at *
  unfold rdB
  by_cases h1:r.kind=1
  .rw [h1];simp only [bQ_,fT_]
   cases hd:a_k b r at_ with
   | none=>exact ⟨Nat.le_refl _,ha⟩
   | some n=>have:=d_4 (c_J hr.kind h1) hd;exact ⟨by simp only;omega,by simp only;omega⟩
  rw [show (r.kind==1)=false by simpa using h1]
  by_cases h2:r.kind=2
  .rw [h2];exact q_C ha _
  rw [show (r.kind==2)=false by simpa using h2]
  have hby:∀p n,p<=b.length->at_<=p->0<=n->at_<=(a_R b p n).2.1/\(a_R b p n).2.1<=b.length:=by
   intro p n hp hap hn;unfold a_R
   split
   .exact ⟨hap,hp⟩
   .exact ⟨by simp only;omega,by simp only;omega⟩
  by_cases h3:r.kind=3
  .rw [h3];exact hby at_ r.size ha (Nat.le_refl _) (by have:=d_s hr.kind h3;omega)
  rw [show (r.kind==3)=false by simpa using h3]
  by_cases h4:r.kind=4
  .rw [h4];simp only [bF_,fF_,bQ_,fT_]
   cases hd:a_k b (O_ d.rules<|o_ r) at_ with
   | none=>exact ⟨Nat.le_refl _,ha⟩
   | some n =>
    have:=d_4 (d_r (d_6 hr.kind h4).1).2 hd;exact hby _ n (by omega) (by omega) this.1
  rw [show (r.kind==4)=false by simpa using h4]
  by_cases G:r.kind=10
  .rw [G];simp only [bF_,fF_,bQ_,fT_]
   cases hd:c_w b at_ (r.bytes.getD 0 0) with
   | none=>exact ⟨Nat.le_refl _,ha⟩
   | some x =>
    have:=j_E _ _ _ _ _ hd;exact ⟨by simp only;omega,by simp only;omega⟩
  rw [show (r.kind==10)=false by simpa using G]
  simp only [bF_,fF_]
  cases hh:a_r d.rules b r at_ with
  | inl c=>exact ⟨Nat.le_refl _,ha⟩
  | inr x =>
   obtain ⟨num,ks,st⟩:=x;have hks:=k_T hr.kind (by omega) ha hh
   have hit:=i_j (rd:=λk p=>rdW d.rules b k.toNat p) (L:=b.length) ks st hks.2.2.1 (λk hk p hp=>by
    have:=hr.kids k<|hks.1 k hk
    exact ih k.toNat (by omega) (by omega) p hp)
   simp only
   generalize a_c (λk p=>rdW d.rules b k.toNat p) ks st=x at hit
   unfold a_W
   split
   .split
    .cases hb:b[x.2.1]? with
     | none=>exact ⟨by simp only;omega,hit.2⟩
     | some c =>
      have:=(gS_.1 hb).1
      simp only
      split
      .exact ⟨by simp only;omega,by simp only;omega⟩
      .exact ⟨by simp only;omega,hit.2⟩
    .exact ⟨by simp only;omega,hit.2⟩
   .exact ⟨by simp only;omega,hit.2⟩
end
end Go.Vw
