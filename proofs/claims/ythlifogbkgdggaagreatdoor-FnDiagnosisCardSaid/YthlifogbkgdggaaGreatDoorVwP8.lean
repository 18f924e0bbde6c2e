
import Derived.Test.YthlifogbkgdggaaGreatDoorVwP7
namespace Go.Vw
open Go.RowKit Dat
section
variable {d:d_}{b:List UInt8}
def d_7 (rs:List g_)(r:g_)(at_:Nat):Nat:=if r.kind==5 || r.kind==7 then at_+(F_ rs<|C_ r).size.toNat else if r.kind==8 then at_+1 else at_
theorem k_k {rs:List g_}{r:g_}{at_:Nat}(h:a_8 rs r=true)(hk:5<=r.kind/\r.kind<=9){num:Int}{ks:List Int}{st:Nat}(hh:O_ rs b r at_ = .inr (num,ks,st)) :
  (∀j (hj:j<ks.length),a_c r num j=ks[j])/\st=d_7 rs r at_/\(r.kind=9->num=0):=by
 unfold O_ at hh
 by_cases h5:r.kind=5
 ·rw [h5] at hh
  simp only [bQ_,fT_] at hh
  cases hi:a_a b (F_ rs<|C_ r) at_ with
  | none=>rw [hi] at hh;cases hh
  | some n =>
   rw [hi] at hh
   simp only at hh
   split at hh
   ·cases hh
   ·cases hh
    refine ⟨fun j hj=>by unfold a_c;rw [h5];simp,by unfold d_7;rw [h5];rfl,by omega⟩
 rw [show (r.kind==5)=false by simpa using h5] at hh
 by_cases h6:r.kind=6
 ·rw [h6] at hh
  simp only [bF_,fF_,bQ_,fT_] at hh
  cases hh
  exact ⟨fun j hj=>by unfold a_c;rw [h6];simp [hj],by unfold d_7;rw [h6];rfl,by omega⟩
 rw [show (r.kind==6)=false by simpa using h6] at hh
 by_cases G:r.kind=7
 ·rw [G] at hh
  simp only [bF_,fF_,bQ_,fT_] at hh
  cases hi:a_a b (F_ rs<|C_ r) at_ with
  | none=>rw [hi] at hh;cases hh
  | some n =>
   rw [hi] at hh
   simp only at hh
   cases ht:a_w r.tags n with
   | none=>rw [ht] at hh;cases hh
   | some k =>
    rw [ht] at hh
    cases hh
    refine ⟨fun j hj=>?_,by unfold d_7;rw [G];rfl,by omega⟩;have:j=0:=by simpa using hj
    subst this;unfold a_c;rw [G];simp [ht]
 rw [show (r.kind==7)=false by simpa using G] at hh
 by_cases H:r.kind=8
 ·rw [H] at hh
  simp only [bF_,fF_,bQ_,fT_] at hh
  cases hi:b[at_]? with
  | none=>rw [hi] at hh;cases hh
  | some c =>
   rw [hi] at hh
   simp only at hh
   split at hh
   ·cases hh
   ·cases hh
    exact ⟨fun j hj=>by unfold a_c;rw [H];simp,by unfold d_7;rw [H];rfl,by omega⟩
 rw [show (r.kind==8)=false by simpa using H] at hh
 simp only [bF_,fF_] at hh
 cases hh
 have I:r.kind=9:=by omega
 refine ⟨fun j hj=>?_,by unfold d_7;rw [I];rfl,fun _=>rfl⟩;have:j=0:=by simpa using hj
 subst this;unfold a_c;rw [I];simp
def okV (d:d_)(b:List UInt8)(rule at_:Int):Bool:=(a_9 d && b_a d rule) && ((decide (0<=at_) && decide (at_<=(b.length:Int))) && decide ((b.length:Int)<=400))
def a_Y (d:d_)(rule:Int)(b:List UInt8)(at_:Int):Val×Int×Int:=if okV d b rule at_=true then b_v (rdW d.rules b rule.toNat at_.toNat) else (zV,0,8)
theorem f_h {rule at_:Int}(h:okV d b rule at_=true):a_9 d=true/\b.length<=400/\∃i p:Nat,rule=i/\at_=p/\i<d.rules.length/\p<=b.length:=by
 unfold okV b_a at h
 simp only [aE_,dE_] at h
 exact ⟨h.1.1,by omega,rule.toNat,at_.toNat,by omega,by omega,by omega,by omega⟩
theorem n_5 (hd:SmD d){n:Nat}(hn:500<=n)(rule at_:Int):f_I n d rule b at_=some (a_Y d rule b at_):=by
 unfold f_I a_Y
 rw [m_r d hd,b_4]
 by_cases h:okV d b rule at_=true
 ·rw [iP_ h]
  obtain ⟨hv,hb,i,p,rfl,rfl,hi,hp⟩:=f_h h;have hlen:=(c_4 hv).2;have H:(a_9 d && b_a d (i:Int))=true:=by unfold b_a;rw [hv,dT_ (by omega),dT_ (by omega)];rfl
  rw [H,dT_ (show (0:Int)<=(p:Int) by omega),dT_ (show (p:Int)<=(b.length:Int) by omega),dF_ (show ¬(400:Int)<(b.length:Int) by omega)]
  simp only [bd_some,nT_,bF_,fF_,Bool.and_self]
  rw [k_3 hv hd hb i hi n (by omega) p hp]
  rfl
 ·rw [iN_ h]
  unfold okV at h
  have G:decide ((400:Int)<(b.length:Int)) = !decide ((b.length:Int)<=400):=by
   by_cases hb:(b.length:Int)<=400
   ·rw [dT_ hb,dF_ (by omega)];rfl
   ·rw [dF_ hb,dT_ (by omega)];rfl
  rw [G]
  generalize (a_9 d && b_a d rule)=a at *
  generalize (decide (0<=at_) && decide (at_<=(b.length:Int)))=c at *
  generalize decide ((b.length:Int)<=400)=e at *
  cases a <;> cases c <;> cases e <;> first | rfl | exact absurd rfl h
theorem k_l (hd:SmD d){n:Nat}(hn:500<=n)(rule at_:Int):c_N n d rule b at_=some ((a_Y d rule b at_).2.1,(a_Y d rule b at_).2.2):=by
 unfold c_N a_Y
 rw [i_8 n (by omega) d hd]
 by_cases h:okV d b rule at_=true
 ·rw [iP_ h]
  obtain ⟨hv,hb,i,p,rfl,rfl,hi,hp⟩:=f_h h;have hlen:=(c_4 hv).2;have G:(a_9 d && b_a d (i:Int))=true:=by unfold b_a;rw [hv,dT_ (by omega),dT_ (by omega)];rfl
  rw [G,dF_ (show ¬(p:Int)<0 by omega),dF_ (show ¬(b.length:Int)<(p:Int) by omega),dF_ (show ¬(400:Int)<(b.length:Int) by omega)]
  simp only [bd_some,nT_,bF_,fF_]
  obtain ⟨ap',hrd⟩:=n_0 hv hd hb i hi n (by omega) p hp 0
  rw [show (⟨(⟨d.rules⟩:d_),b,0⟩:T_)=⟨d,b,0⟩ from rfl,hrd]
  rfl
 ·rw [iN_ h]
  unfold okV at h
  have H:decide ((400:Int)<(b.length:Int)) = !decide ((b.length:Int)<=400):=by
   by_cases hb:(b.length:Int)<=400
   ·rw [dT_ hb,dF_ (by omega)];rfl
   ·rw [dF_ hb,dT_ (by omega)];rfl
  have I:decide (at_<0) = !decide (0<=at_):=by
   by_cases hb:0<=at_
   ·rw [dT_ hb,dF_ (by omega)];rfl
   ·rw [dF_ hb,dT_ (by omega)];rfl
  have G:decide ((b.length:Int)<at_) = !decide (at_<=(b.length:Int)):=by
   by_cases hb:at_<=(b.length:Int)
   ·rw [dT_ hb,dF_ (by omega)];rfl
   ·rw [dF_ hb,dT_ (by omega)];rfl
  rw [H,I,G]
  generalize (a_9 d && b_a d rule)=a at *
  generalize decide (0<=at_)=c at *
  generalize decide (at_<=(b.length:Int))=c' at *
  generalize decide ((b.length:Int)<=400)=e at *
  cases a <;> cases c <;> cases c' <;> cases e <;> first | rfl | exact absurd rfl h
def a_Z (d:d_):Int:=(d.rules.length:Int) - 1
theorem i_l (hd:SmD d):d_g d=some (a_Z d):=by
 have:=hd.rules;have:=MXv;unfold d_g a_Z;rw [a_y (by omega) (by omega)]
theorem k_m (hd:SmD d):d_H d=some (a_Z d):=by
 have:=hd.rules;have:=MXv;unfold d_H a_Z;rw [a_y (by omega) (by omega)]
def a_L (d:d_)(b:List UInt8):Val×Int×Int:=if (a_Y d (a_Z d) b 0).2.2=0/\(a_Y d (a_Z d) b 0).2.1<(b.length:Int) then (zV,(a_Y d (a_Z d) b 0).2.1,7) else a_Y d (a_Z d) b 0
theorem n_6 (v:Val)(e c:Int)(len:Int):bd (α:=Bool) (if (c==0)=true then some (decide<|e<len) else some false) (fun H=>if H=true then some ((⟨0,([]:List UInt8),([]:List Val)⟩:Val),e,7) else some ((⟨v.number,v.bytes,v.items⟩:Val),e,c))=some (if c=0/\e<len then (zV,e,7) else (v,e,c)):=by
 rw [k_2]
 by_cases G:c=0
 ·subst G
  by_cases h1:e<len
  ·rw [dT_ h1,iP_ (show (0:Int)=0/\e<len from ⟨rfl,h1⟩)];rfl
  ·rw [dF_ h1,iN_ (show ¬((0:Int)=0/\e<len) from fun h=>h1 h.2)];rfl
 ·rw [show (c==0)=false by simpa using G,iN_ (show ¬(c=0/\e<len) from fun h=>G h.1)];rfl
theorem n_7 (hd:SmD d){n:Nat}(hn:500<=n):f_J n d b=some (a_L d b):=by
 unfold f_J a_L
 rw [k_m hd,bd_some,n_5 hd hn]
 generalize a_Y d (a_Z d) b 0=x;exact n_6 x.1 x.2.1 x.2.2 _
end
end Go.Vw
