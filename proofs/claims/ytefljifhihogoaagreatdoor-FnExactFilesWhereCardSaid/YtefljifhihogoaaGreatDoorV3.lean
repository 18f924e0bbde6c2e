import Derived.Test.YtefljifhihogoaaGreatDoorV2
namespace Go.Vw
set_option linter.unusedVariables false
open Go.RowKit Dat
abbrev zV:Val:=⟨0,([]:Bt),([]:List Val)⟩
theorem a_7:LIM=4294967296:=rfl
theorem MXv:MX=1048576:=rfl
def a_v (b:Bt)(p q:Nat):Bt:=(b.take q).drop p
theorem d_G {b:Bt}{p q:Nat}(h1:p<=q)(h2:q<=b.length):slc b (p:Int) (q:Int)=some (a_v b p q):=by
 rw [d_O (by omega) (by omega) (by omega)];rfl
theorem d_H {b:Bt}{p q:Nat}(h2:q<=b.length):(a_v b p q).length=q - p:=by
 grind [a_v]
def U_ (b:Bt)(r:f_)(at_:Nat):Option Int:=if (b.length:Int) - at_<r.size then none else some (e_9 (a_v b at_<|at_+r.size.toNat) r.little)
def f_f (r:f_):Prop:=r.kind=1/\1<=r.size/\r.size<=4
theorem c_p {b:Bt}{r:f_}{at_:Nat}{n:Int}(hr:f_f r)(h:U_ b r at_=some n):0<=n/\n<4294967296/\at_+r.size.toNat<=b.length:=by
 unfold U_ at h
 split at h
 .cases h
 .obtain ⟨_,h1,h4⟩:=hr
  cases QAS h
  have:=w_8 (a_v b at_<|at_+r.size.toNat) r.little (by grind [d_H])
  omega
section
variable {d:d_}{b:Bt}{r:f_}{k:Int}{at_:Nat}
theorem i_9 (hk:idx d.rules k=some r)(hr:f_f r)(hb:b.length<=MX)(ha:at_<=b.length) :
  d_r d k b at_=some (match U_ b r at_ with | none=>(0,(at_:Int),false) | some n=>(n,((at_+r.size.toNat:Nat):Int),true)):=by
 have hMX:=MXv;obtain ⟨_,h1,h4⟩:=hr;unfold d_r U_
 rw [hk,a_,a_L (x:=(b.length:Int)) (by omega) (by omega),ia_ (x:=(at_:Int)) (by omega) (by omega)]
 by_cases h:(b.length:Int) - at_<r.size
 .grind
 .rw [dF_ h,iN_ (by simp),iN_ h,show (at_:Int)+r.size=((at_+r.size.toNat:Nat):Int) by omega,d_G (by omega) (by omega),a_,q_L _ _ (by grind [d_H])]
  rfl
theorem l_O {n:Int}(hb:b.length<=MX)(ha:at_<=b.length)(G:0<=n)(hn:n<4294967296) :
  g_x ⟨d,b⟩ at_ n=some (if (b.length:Int) - at_<n then ([],some ((at_:Int),1)) else (a_v b at_<|at_+n.toNat,none)):=by
 have hMX:=MXv;unfold g_x c_C
 simp only
 rw [a_L (x:=(b.length:Int)) (by omega) (by omega),ia_ (x:=(at_:Int)) (by omega) (by omega)]
 by_cases h:(b.length:Int) - at_<n
 .simp_all
 .rw [dF_ h,iN_ (by simp),iN_ h,show (at_:Int)+n=((at_+n.toNat:Nat):Int) by omega,d_G (by omega) (by omega)];rfl
theorem l_P (hk:idx d.rules k=some r)(hr:f_f r)(hb:b.length<=MX)(ha:at_<=b.length) :
  g_y ⟨d,b⟩ k at_=some (match U_ b r at_ with | none=>(0,(at_:Int),some ((at_:Int),1)) | some n=>(n,((at_+r.size.toNat:Nat):Int),none)):=by
 have hMX:=MXv;obtain ⟨_,h1,h4⟩:=hr;unfold g_y U_
 simp only
 rw [hk,a_,l_O hb ha (by omega) (by omega)]
 by_cases h:(b.length:Int) - at_<r.size
 .simp_all
 .rw [iN_ h,iN_ h]
  simp only [a_b]
  rw [n_K _ _ (by grind [d_H]),ia_ (by omega) (by omega),show (at_:Int)+r.size=((at_+r.size.toNat:Nat):Int) by omega]
  rfl
theorem j_u {ap n:Int}(hb:b.length<=MX)(ha:at_<=b.length)(G:0<=n)(hn:n<4294967296) :
  f_n ⟨d,b,ap⟩ at_ n=some (if (b.length:Int) - at_<n then ⟨(at_:Int),1⟩ else ⟨((at_+n.toNat:Nat):Int),0⟩):=by
 have hMX:=MXv;unfold f_n
 simp only
 rw [a_L (x:=(b.length:Int)) (by omega) (by omega),ia_ (x:=(at_:Int)) (by omega) (by omega)]
 grind
theorem l_Q {ap:Int}(hk:idx d.rules k=some r)(hr:f_f r)(hb:b.length<=MX)(ha:at_<=b.length) :
  g_w ⟨d,b,ap⟩ k at_=some (match U_ b r at_ with | none=>(0,⟨(at_:Int),1⟩,e_ ap 1) | some n=>(n,⟨((at_+r.size.toNat:Nat):Int),0⟩,e_ ap 1)):=by
 have hMX:=MXv;obtain ⟨_,h1,h4⟩:=hr;unfold g_w U_
 simp only
 rw [hk,a_,j_u hb ha (by omega) (by omega)]
 by_cases h:(b.length:Int) - at_<r.size
 .simp_all
 .rw [iN_ h,iN_ h]
  simp only [a_]
  rw [d_G (by omega) (by omega),a_,n_K _ _ (by grind [d_H])]
  rfl
def b_R (b bs:Bt)(at_ k:Nat):Bool:=match b[at_+k]? with
 | none=>true
 | some c=>b_ c != b_ (bs.getD k 0)
def c_6 (b bs:Bt)(at_:Nat):Nat×Int:=match (List.range bs.length).find? (b_R b bs at_) with
 | none=>(at_+bs.length,0)
 | some k=>if b.length<=at_+k then (at_,1) else (at_+k,2)
theorem w_x (hb:b.length<=MX)(ha:at_<=b.length)(hr:r.bytes.length<=MX):j_U r b at_=some (zV,((c_6 b r.bytes at_).1:Int),(c_6 b r.bytes at_).2):=by
 have hMX:=MXv;unfold j_U c_6
 rw [h_s (b_R b r.bytes at_) (λk=>if b.length<=at_+k then (zV,(at_:Int),(1:Int)) else (zV,((at_+k:Nat):Int),2))]
 .grind [List.range,b_R,a_,W_,d_Y,d_o]
 .intro k hk _
  rw [ia_ (x:=(at_:Int)) (by omega) (by omega),show (at_:Int)+k=((at_+k:Nat):Int) by omega,ix_ hk]
  by_cases h:at_+k<b.length
  .rw [dF_ (by omega),ix_ h,show b_R b r.bytes at_ k=(b_ b[at_+k] != b_ r.bytes[k]) by grind [b_R]]
   rw [iN_ (show ¬b.length<=at_+k by omega)]
   simp only [a_,bF_,fF_]
   grind
  grind [b_R]
theorem w_y (hb:b.length<=MX)(ha:at_<=b.length)(hr:r.bytes.length<=MX):k_d ⟨d,b⟩ r at_=some (if (c_6 b r.bytes at_).2=0 then (((c_6 b r.bytes at_).1:Int),none) else ((at_:Int),some (((c_6 b r.bytes at_).1:Int),(c_6 b r.bytes at_).2))):=by
 have hMX:=MXv;unfold k_d c_6 c_C
 simp only
 rw [h_s (b_R b r.bytes at_) (λk=>if b.length<=at_+k then ((at_:Int),some ((at_:Int),(1:Int))) else ((at_:Int),some (((at_+k:Nat):Int),2)))]
 .rw [ia_ (x:=(at_:Int)) (by omega) (by omega)]
  cases (List.range r.bytes.length).find? (b_R b r.bytes at_) with
  | none=>rfl
  | some k =>
   simp only [a_,d_Y]
   grind
 .intro k hk _
  rw [ia_ (x:=(at_:Int)) (by omega) (by omega),show (at_:Int)+k=((at_+k:Nat):Int) by omega,ix_ hk]
  by_cases h:at_+k<b.length
  .rw [a_,dF_ (by omega),ix_ h,show b_R b r.bytes at_ k=(b_ b[at_+k] != b_ r.bytes[k]) by grind [b_R]]
   rw [iN_ (show ¬b.length<=at_+k by omega)]
   simp only [a_,bF_,fF_]
   grind
  .rw [a_,dT_ (by omega),show b_R b r.bytes at_ k=true by grind [b_R]]
   simp_all
theorem w_z {ap:Int}(hb:b.length<=MX)(ha:at_<=b.length)(hr:r.bytes.length<=MX):k_7 ⟨d,b,ap⟩ r at_=some ⟨((c_6 b r.bytes at_).1:Int),(c_6 b r.bytes at_).2⟩:=by
 have hMX:=MXv;unfold k_7 c_6
 simp only
 rw [h_s (b_R b r.bytes at_) (λk=>if b.length<=at_+k then (⟨(at_:Int),1⟩:R_) else ⟨((at_+k:Nat):Int),2⟩)]
 .rw [ia_ (x:=(at_:Int)) (by omega) (by omega)]
  cases (List.range r.bytes.length).find? (b_R b r.bytes at_) with
  | none=>rfl
  | some k =>
   simp only [a_,d_Y]
   grind
 .intro k hk hbef
  have hle:at_+k<=b.length:=by
   cases k with
   | zero=>omega
   | succ k =>
    have:=hbef k (by omega)
    grind [b_R]
  rw [ia_ (x:=(at_:Int)) (by omega) (by omega),show (at_:Int)+k=((at_+k:Nat):Int) by omega,ix_ hk]
  by_cases h:at_+k<b.length
  .rw [a_,show (((at_+k:Nat):Int)==(b.length:Int))=false by grind,ix_ h,show b_R b r.bytes at_ k=(b_ b[at_+k] != b_ r.bytes[k]) by grind [b_R]]
   rw [iN_ (show ¬b.length<=at_+k by omega)]
   simp only [a_,bF_,fF_]
   grind
  .rw [a_,show (((at_+k:Nat):Int)==(b.length:Int))=true by grind,show b_R b r.bytes at_ k=true by grind [b_R]]
   grind
theorem w_A (ha:at_<=b.length)(bs:Bt):at_<=(c_6 b bs at_).1/\(c_6 b bs at_).1<=b.length:=by
 unfold c_6
 cases hf:(List.range bs.length).find? (b_R b bs at_) with
 | none =>
  simp only
  refine ⟨by omega,?_⟩
  cases hl:bs.length with
  | zero=>omega
  | succ m =>
   have:=List.find?_eq_none.1 hf m<|QAX.2 (by omega)
   grind [b_R]
 | some k =>
  grind
def a_H (b:Bt)(at_:Nat)(n:Int):Val×Nat×Int:=if (b.length:Int) - at_<n then (zV,at_,1) else (⟨0,a_v b at_<|at_+n.toNat,[]⟩,at_+n.toNat,0)
theorem r_h {n:Int}(hb:b.length<=MX)(ha:at_<=b.length)(G:0<=n)(hn:n<4294967296):i_v b at_ n=some ((a_H b at_ n).1,((a_H b at_ n).2.1:Int),(a_H b at_ n).2.2):=by
 have hMX:=MXv;unfold i_v a_H
 rw [a_L (x:=(b.length:Int)) (by omega) (by omega),ia_ (x:=(at_:Int)) (by omega) (by omega)]
 by_cases h:(b.length:Int) - at_<n
 .grind
 .rw [dF_ h,iN_ (by simp),iN_ h,show (at_:Int)+n=((at_+n.toNat:Nat):Int) by omega,d_G (by omega) (by omega),a_,c_l (by grind [a_7,d_H])]
  simp
theorem r_i {n:Int}(hb:b.length<=MX)(ha:at_<=b.length)(G:0<=n)(hn:n<4294967296):i_E ⟨d,b⟩ at_ n=some (if (a_H b at_ n).2.2=0 then ((a_H b at_ n).1,((a_H b at_ n).2.1:Int),none) else (zV,(at_:Int),some (((a_H b at_ n).2.1:Int),(a_H b at_ n).2.2))):=by
 have hMX:=MXv;unfold i_E a_H
 rw [l_O hb ha G hn]
 by_cases h:(b.length:Int) - at_<n
 .simp_all
 .rw [iN_ h,iN_ h]
  simp only [a_b]
  rw [c_l (by grind [a_7,d_H]),ia_ (x:=(at_:Int)) (by omega) (by omega),show (at_:Int)+n=((at_+n.toNat:Nat):Int) by omega]
  rfl
end
def b_9 (ts:List Int)(n:Int):Option Nat:=(List.range ts.length).find? (λk=>ts.getD k 0==n)
def a_n (r:f_)(num:Int)(i:Nat):Int :=
 if r.kind==5 then r.kids.getD 1 0
 else if r.kind==6 then (if i<r.kids.length then r.kids.getD i 0 else -1)
 else if r.kind==7 then (match b_9 r.tags num with | some k=>r.kids.getD (k+1) 0 | none=>-1)
 else if r.kind==8 then r.kids.getD 0 0
 else if r.kind==9 then r.kids.getD 0 0
 else -1
structure i_a (r:f_):Prop where
 arr:r.kind=5->r.kids.length=2
 cho:r.kind=7->r.kids.length=r.tags.length+1
 opt:r.kind=8->r.kids.length=1
 chk:r.kind=9->r.kids.length=1
theorem w_B {r:f_}{num:Int}(h:r.kids.length=r.tags.length+1):k_ (σ:=Unit) (ρ:=Int) (λG=>(λ(_:Unit)=>bd (idx r.tags ((G:Nat):Int)) λH=>if (H==num) then bd (idx r.kids ((G+1:Nat):Int)) λI=>some (.ret I) else some (.next ()))) r.tags.length 0 ()=some (match b_9 r.tags num with | some k=>.inr (r.kids.getD (k+1) 0) | none=>.inl ()):=by
 unfold b_9
 rw [h_s (λk=>r.tags.getD k 0==num) (λk=>r.kids.getD (k+1) 0)]
 .rfl
 .intro k hk _
  rw [ix_ hk,a_,a_x hk,ix_ (show k+1<r.kids.length by omega),a_,a_x (show k+1<r.kids.length by omega)]
  grind
theorem d_I {r:f_}(h:i_a r)(num:Int)(i:Nat):b_S r num i=some (a_n r num i):=by
 unfold b_S a_n
 by_cases h5:r.kind=5
 .rw [h5];simp only [bQ_,fT_]
  rw [m_b (by have:=h.arr h5;omega),a_x (by have:=h.arr h5;omega)];rfl
 .rw [show (r.kind==5)=false by grind]
  simp only [bF_,fF_]
  by_cases h6:r.kind=6
  .rw [h6];simp only [bQ_,fT_]
   by_cases hi:i<r.kids.length
   .rw [dT_ (by omega),ix_ hi,a_x hi,iP_ rfl,iP_ hi];rfl
   simp_all [dF_,iN_]
  .rw [show (r.kind==6)=false by grind]
   simp only [bF_,fF_]
   by_cases I:r.kind=7
   .rw [I];simp only [bQ_,fT_]
    rw [w_B (h.cho I)]
    cases b_9 r.tags num <;> rfl
   .rw [show (r.kind==7)=false by grind]
    simp only [bF_,fF_]
    by_cases G:r.kind=8
    .rw [G];simp only [bQ_,fT_,a_]
     rw [b_j (by have:=h.opt G;omega),a_x (by have:=h.opt G;omega)];rfl
    .rw [show (r.kind==8)=false by grind]
     simp only [bF_,fF_]
     by_cases H:r.kind=9
     .rw [H];simp only [bQ_,fT_,a_]
      rw [b_j (by have:=h.chk H;omega),a_x (by have:=h.chk H;omega)];rfl
     simp_all
theorem n_Z {d:d_}{k:Int}{r:f_}(hk:idx d.rules k=some r)(h:i_a r)(v:Val)(i:Nat):f_r d k v i=some (a_n r v.number i):=by
 rw [← d_I h v.number i]
 unfold f_r b_S
 simp_all
end Go.Vw
namespace Go.Vw
open Go.RowKit Dat
abbrev RR:=Val×Nat×Int
def y_ (rs:List f_)(k:Int):f_:=rs.getD k.toNat default
def I_ (rs:List f_)(b:Bt)(r:f_)(at_:Nat):Sum Int (Int×List Int×Nat) :=
 if r.kind==5 then (match U_ b (y_ rs (p_ r)) at_ with
  | none=>.inl 1
  | some n=>if 40<n then .inl 6 else .inr (0,List.replicate n.toNat (r.kids.getD 1 0),at_+(y_ rs (p_ r)).size.toNat))
 else if r.kind==6 then .inr (0,r.kids,at_)
 else if r.kind==7 then (match U_ b (y_ rs (p_ r)) at_ with
  | none=>.inl 1
  | some n=>match b_9 r.tags n with
   | none=>.inl 3
   | some k=>.inr (n,[r.kids.getD (k+1) 0],at_+(y_ rs (p_ r)).size.toNat))
 else if r.kind==8 then (match b[at_]? with
  | none=>.inl 1
  | some c=>if 1<b_ c then .inl 4 else .inr (0,List.replicate c.toNat (r.kids.getD 0 0),at_+1))
 else .inr (0,[r.kids.getD 0 0],at_)
def P_ (rd:Int->Nat->RR):List Int->Nat->List Val×Nat×Int
 | [],p=>([],p,0)
 | k::ks,p=>if (rd k p).2.2=0 then (if (P_ rd ks (rd k p).2.1).2.2=0 then ((rd k p).1::(P_ rd ks (rd k p).2.1).1,(P_ rd ks (rd k p).2.1).2.1,0) else ([],(P_ rd ks (rd k p).2.1).2.1,(P_ rd ks (rd k p).2.1).2.2)) else ([],(rd k p).2.1,(rd k p).2.2)
def a_R (b:Bt)(r:f_)(num:Int)(at_:Nat)(x:List Val×Nat×Int):RR :=
 if x.2.2=0 then (if r.kind==9 then (match b[x.2.1]? with
  | none=>(zV,x.2.1,1)
  | some c=>if b_ c=c_Y (a_v b at_ x.2.1) then (⟨0,[],x.1⟩,x.2.1+1,0) else (zV,x.2.1,5)) else (⟨num,[],x.1⟩,x.2.1,0)) else (zV,x.2.1,x.2.2)
def rdB (rs:List f_)(b:Bt)(r:f_)(at_:Nat)(rd:Int->Nat->RR):RR :=
 if r.kind==1 then (match U_ b r at_ with | none=>(zV,at_,1) | some n=>(⟨n,[],[]⟩,at_+r.size.toNat,0))
 else if r.kind==2 then (zV,(c_6 b r.bytes at_).1,(c_6 b r.bytes at_).2)
 else if r.kind==3 then a_H b at_ r.size
 else if r.kind==4 then (match U_ b (y_ rs<|p_ r) at_ with | none=>(zV,at_,1) | some n=>a_H b (at_+(y_ rs<|p_ r).size.toNat) n)
 else if r.kind==10 then (match d_D b at_ (r.bytes.getD 0 0) with | none=>(zV,at_,1) | some (c,q)=>(⟨0,c,[]⟩,q,0))
 else match I_ rs b r at_ with
  | .inl c=>(zV,at_,c)
  | .inr (num,ks,st)=>a_R b r num at_<|P_ rd ks st
def rdW (rs:List f_)(b:Bt)(rule:Nat)(at_:Nat):RR :=
 rdB rs b (rs.getD rule default) at_ (λk p=>if _h:k.toNat<rule then rdW rs b k.toNat p else (zV,p,0))
termination_by rule
structure ROk (rs:List f_)(i:Nat)(r:f_):Prop where
 kids:∀k∈r.kids,0<=k/\k<(i:Int)
 kind:a_m rs r=true
 name:b_3 r.name=true
theorem b_i {d:d_}(h:D_ d=true):1<=d.rules.length/\d.rules.length<=24:=by
 grind [D_]
theorem a_P {d:d_}(h:D_ d=true){i:Nat}(hi:i<d.rules.length):ROk d.rules i d.rules[i]:=by
 unfold D_ at h
 rw [aE_] at h
 have h2:=h.2
 rw [QAt,QAi] at h2
 have h3:=h2 i<|QAX.2 hi
 rw [QAt,Bool.not_eq_false] at h3
 unfold e_A at h3
 rw [gG_ hi] at h3
 simp only [aE_,QAt,QAi] at h3
 obtain ⟨⟨h4,_⟩,_,h6,G⟩:=h3;refine ⟨λk hk=>?_,G,h4⟩
 grind [f_c]
section
variable {rs:List f_}{r:f_}
theorem c_8 {k:Int}(h:0<lim rs k):idx rs k=some (y_ rs k)/\f_f (y_ rs k):=by
 unfold lim at h
 cases hr:idx rs k with
 | none=>grind
 | some q =>
  rw [hr] at h
  simp only at h
  split at h
  .rename_i hq
   obtain ⟨G,h1,_⟩:=a_k hr;have:y_ rs k=q:=by grind [y_]
   rw [this]
   exact ⟨rfl,hq⟩
  .omega
theorem g_f (h:a_m rs r=true)(hk:r.kind=1):f_f r:=by
 unfold a_m at h
 rw [hk] at h
 simp only [bQ_,fT_,aE_,dE_] at h
 exact ⟨hk,h.2.1.1,h.2.1.2⟩
theorem x_r (h:a_m rs r=true)(hk:r.kind=2):1<=r.bytes.length/\r.bytes.length<=16:=by
 grind [a_m]
theorem h_p (h:a_m rs r=true)(hk:r.kind=3):1<=r.size/\r.size<=64:=by
 grind [a_m]
theorem g_g (h:a_m rs r=true)(hk:r.kind=4):0<lim rs (p_ r)/\r.kids.length=1:=by
 unfold a_m at h
 rw [hk] at h
 simp only [show ((4:Int)==1)=false from rfl,show ((4:Int)==2)=false from rfl,show ((4:Int)==3)=false from rfl,bF_,fF_,bQ_,fT_,aE_,dE_] at h
 grind [e_7]
theorem d_6 (h:a_m rs r=true)(hk:r.kind=5):0<lim rs (p_ r)/\r.kids.length=2:=by
 unfold a_m at h
 rw [hk] at h
 simp only [show ((5:Int)==1)=false from rfl,show ((5:Int)==2)=false from rfl,show ((5:Int)==3)=false from rfl,show ((5:Int)==4)=false from rfl,bF_,fF_,bQ_,fT_,aE_,dE_] at h
 grind [e_7]
theorem e_F (h:a_m rs r=true)(hk:r.kind=6):r.kids.length=r.names.length/\1<=r.kids.length/\r.kids.length<=8/\∀s∈r.names,b_3 s=true:=by
 unfold a_m at h
 rw [hk] at h
 simp only [show ((6:Int)==1)=false from rfl,show ((6:Int)==2)=false from rfl,show ((6:Int)==3)=false from rfl,show ((6:Int)==4)=false from rfl,show ((6:Int)==5)=false from rfl,bF_,fF_,bQ_,fT_,aE_,c_X,dE_] at h
 have h1:=e_7 h.1 (by omega);refine ⟨by omega,by omega,by omega,λs hs=>?_⟩;obtain ⟨k,hk',rfl⟩:=QAc hs
 simp_all [d_h,Bool.or_eq_true,not_or]
theorem d_m (h:a_m rs r=true)(hk:r.kind=7):0<lim rs (p_ r)/\r.kids.length=r.tags.length+1/\1<=r.tags.length/\r.tags.length<=8:=by
 unfold a_m at h
 rw [hk] at h
 simp only [show ((7:Int)==1)=false from rfl,show ((7:Int)==2)=false from rfl,show ((7:Int)==3)=false from rfl,show ((7:Int)==4)=false from rfl,show ((7:Int)==5)=false from rfl,show ((7:Int)==6)=false from rfl,bF_,fF_,bQ_,fT_,aE_,c_X,dE_] at h
 have h1:=e_7 h.1 (by omega);refine ⟨?_,by omega,by omega,by omega⟩
 rcases q_a rs (p_ r) with hl | hl
 .exfalso
  have:=h.2.2
  rw [QAt,QAi] at this
  have G:0<r.tags.length:=by omega
  have:=this 0<|QAX.2 G
  rw [l_y G,hl] at this
  grind
 omega
theorem d_L (h:a_m rs r=true)(hk:r.kind=8∨r.kind=9):r.kids.length=1:=by
 unfold a_m at h
 rcases hk with hk | hk
 .rw [hk] at h
  simp only [show ((8:Int)==1)=false from rfl,show ((8:Int)==2)=false from rfl,show ((8:Int)==3)=false from rfl,show ((8:Int)==4)=false from rfl,show ((8:Int)==5)=false from rfl,show ((8:Int)==6)=false from rfl,show ((8:Int)==7)=false from rfl,bF_,fF_,bQ_,fT_] at h
  grind [e_7]
 .rw [hk] at h
  simp only [show ((9:Int)==1)=false from rfl,show ((9:Int)==2)=false from rfl,show ((9:Int)==3)=false from rfl,show ((9:Int)==4)=false from rfl,show ((9:Int)==5)=false from rfl,show ((9:Int)==6)=false from rfl,show ((9:Int)==7)=false from rfl,show ((9:Int)==8)=false from rfl,bF_,fF_,bQ_,fT_] at h
  grind [e_7]
theorem o_i (h:a_m rs r=true)(hk:r.kind=10):r.bytes.length=1:=by
 grind [a_m]
theorem g_h (h:a_m rs r=true):1<=r.kind/\r.kind<=10:=by
 unfold a_m at h
 by_cases h1:r.kind=1
 .omega
 by_cases h2:r.kind=2
 .omega
 grind
theorem d_7 (h:a_m rs r=true):i_a r:=⟨λhk=>(d_6 h hk).2,λhk=>(d_m h hk).2.1,λhk=>d_L h<|.inl hk,λhk=>d_L h<|.inr hk⟩
end
theorem e_e {l:List Int}{k:Nat}(h:k<l.length):l.getD k 0∈l:=by grind
theorem m_1 {ts:List Int}{n:Int}{k:Nat}(h:b_9 ts n=some k):k<ts.length:=by
 grind [b_9]
theorem i_f {rs:List f_}{b:Bt}{r:f_}{at_:Nat}(h:a_m rs r=true)(hk:5<=r.kind/\r.kind<=9)(ha:at_<=b.length){num:Int}{ks:List Int}{st:Nat}(hh:I_ rs b r at_ = .inr (num,ks,st)) :
  (∀k∈ks,k∈r.kids)/\at_<=st/\st<=b.length/\ks.length<=40/\(st=at_->r.kind=6∨r.kind=9):=by
 unfold I_ at hh
 by_cases h5:r.kind=5
 .rw [h5] at hh
  simp only [bQ_,fT_] at hh
  have hl:=d_6 h h5
  cases hi:U_ b (y_ rs<|p_ r) at_ with
  | none=>grind
  | some n =>
   rw [hi] at hh
   have hr:=(c_8 hl.1).2;have hb:=c_p hr hi;obtain ⟨_,hs,_⟩:=hr
   grind
 rw [show (r.kind==5)=false by grind] at hh
 by_cases h6:r.kind=6
 .rw [h6] at hh
  simp only [bF_,fF_,bQ_,fT_] at hh
  cases hh
  exact ⟨λk hk=>hk,QAB _,ha,by grind [e_F],λ_=>.inl h6⟩
 rw [show (r.kind==6)=false by grind] at hh
 by_cases G:r.kind=7
 .rw [G] at hh
  simp only [bF_,fF_,bQ_,fT_] at hh
  have hl:=d_m h G
  cases hi:U_ b (y_ rs<|p_ r) at_ with
  | none=>grind
  | some n =>
   rw [hi] at hh
   have hr:=(c_8 hl.1).2;have hb:=c_p hr hi;obtain ⟨_,hs,_⟩:=hr
   grind [b_9]
 rw [show (r.kind==7)=false by grind] at hh
 by_cases H:r.kind=8
 .rw [H] at hh
  simp only [bF_,fF_,bQ_,fT_] at hh
  have hl:=d_L h<|.inl H
  grind
 rw [show (r.kind==8)=false by grind] at hh
 simp only [bF_,fF_] at hh
 cases hh
 have hl:=d_L h<|.inr (show r.kind=9 by omega)
 grind
theorem s_7 {rd rd':Int->Nat->RR}:∀(ks:List Int)(p:Nat),(∀k∈ks,∀p,rd k p=rd' k p)->P_ rd ks p=P_ rd' ks p
 | [],_,_=>rfl
 | k::ks,p,h=>by
  unfold P_
  rw [h k mS_ p,s_7 ks _<|λk hk=>h k<|mT_ _ hk]
theorem j_y {rd:Int->Nat->RR}{L:Nat}:∀(ks:List Int)(p:Nat),p<=L->(∀k∈ks,∀p,p<=L->p<=(rd k p).2.1/\(rd k p).2.1<=L)->p<=(P_ rd ks p).2.1/\(P_ rd ks p).2.1<=L
 | [],p,hp,_=>⟨QAB _,hp⟩
 | k::ks,p,hp,h=>by
  have h1:=h k mS_ p hp;have h2:=j_y (rd:=rd) ks _ h1.2<|λk hk=>h k<|mT_ _ hk
  grind [P_]
section
variable {d:d_}{b:Bt}
theorem e_G (hv:D_ d=true){i:Nat}(hi:i<d.rules.length){at_:Nat}(ha:at_<=b.length):rdW d.rules b i at_=rdB d.rules b d.rules[i] at_ (λk p=>rdW d.rules b k.toNat p):=by
 have hr:=a_P hv hi
 rw [rdW]
 have e:d.rules.getD i default=d.rules[i]:=by grind
 rw [e]
 have hal:=g_h hr.kind;unfold rdB
 by_cases hk:5<=d.rules[i].kind/\d.rules[i].kind<=9
 .cases hh:I_ d.rules b d.rules[i] at_ with
  | inl c=>rfl
  | inr x =>
   obtain ⟨num,ks,st⟩:=x;have hks:=(i_f hr.kind hk ha hh).1
   simp only
   rw [s_7 ks st (λk hk p=>by
    have:=hr.kids k<|hks k hk
    rw [dif_pos (by omega)])]
 .have:d.rules[i].kind=1∨d.rules[i].kind=2∨d.rules[i].kind=3∨d.rules[i].kind=4∨d.rules[i].kind=10:=by omega
  rcases this with h | h | h | h | h <;> rw [h] <;> rfl
theorem c_9 (hv:D_ d=true):∀(i:Nat),i<d.rules.length->∀at_,at_<=b.length->at_<=(rdW d.rules b i at_).2.1/\(rdW d.rules b i at_).2.1<=b.length:=by
 intro i
 induction i using Nat.strongRecOn with
 | _ i ih =>
  intro hi at_ ha
  rw [e_G hv hi ha]
  have hr:=a_P hv hi;have hal:=g_h hr.kind;generalize hrr:d.rules[i]=r at *
  unfold rdB
  by_cases h1:r.kind=1
  .grind [U_]
  rw [show (r.kind==1)=false by grind]
  by_cases h2:r.kind=2
  .grind [w_A]
  rw [show (r.kind==2)=false by grind]
  have hby:∀p n,p<=b.length->at_<=p->0<=n->at_<=(a_H b p n).2.1/\(a_H b p n).2.1<=b.length:=by
   grind [a_H]
  by_cases h3:r.kind=3
  .rw [h3];exact hby at_ r.size ha (QAB _) (by have:=h_p hr.kind h3;omega)
  rw [show (r.kind==3)=false by grind]
  by_cases h4:r.kind=4
  .rw [h4];simp only [bF_,fF_,bQ_,fT_]
   cases hd:U_ b (y_ d.rules<|p_ r) at_ with
   | none=>grind
   | some n =>
    have:=c_p (c_8 (g_g hr.kind h4).1).2 hd
    grind
  rw [show (r.kind==4)=false by grind]
  by_cases G:r.kind=10
  .rw [G];simp only [bF_,fF_,bQ_,fT_]
   cases hd:d_D b at_ (r.bytes.getD 0 0) with
   | none=>grind
   | some x =>
    have:=l_H _ _ _ _ _ hd
    grind
  rw [show (r.kind==10)=false by grind]
  simp only [bF_,fF_]
  cases hh:I_ d.rules b r at_ with
  | inl c=>grind
  | inr x =>
   obtain ⟨num,ks,st⟩:=x;have hks:=i_f hr.kind (by omega) ha hh
   have hit:=j_y (rd:=λk p=>rdW d.rules b k.toNat p) (L:=b.length) ks st hks.2.2.1 (λk hk p hp=>by
    have:=hr.kids k<|hks.1 k hk
    exact ih k.toNat (by omega) (by omega) p hp)
   grind [a_R,P_,rdW]
end
end Go.Vw
