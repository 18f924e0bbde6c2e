
import Derived.Test.YtgieiijmhcgmcaaGreatDoorVwP15
namespace Go.Vw
open Go.RowKit Dat
theorem o_E {s:Str}(h:a_J s=true):∀c∈s.b,c ≠ 47/\c ≠ 58:=by
 intro c hc;unfold a_J at h
 rw [aE_,Bool.not_eq_true',List.any_eq_false] at h
 obtain ⟨k,hk,rfl⟩:=List.getElem_of_mem hc;have h1:=h.1 k<|List.mem_range.2 hk;unfold a_Z at h1
 rw [gG_ hk] at h1
 simp only at h1
 constructor
 ·intro h2;rw [h2] at h1;simp [show d_J 47=false by decide,show a_F 47=false by decide] at h1
 ·intro h2;rw [h2] at h1;simp [show d_J 58=false by decide,show a_F 58=false by decide] at h1
theorem k_I {l:List Str}{s:Str}:c_4 l s=true ↔ ∃x∈l,x.b=s.b:=by
 unfold c_4;simp
theorem o_F {rs:List a_}{r:a_}(h:a_d rs r=true)(hk:r.kind=6){i j:Nat}(hi:i<r.names.length)(hj:j<r.names.length)(he:r.names[i].b=r.names[j].b):i=j:=by
 unfold a_d at h
 rw [hk] at h
 simp only [show ((6:Int)==1)=false from rfl,show ((6:Int)==2)=false from rfl,show ((6:Int)==3)=false from rfl,show ((6:Int)==4)=false from rfl,show ((6:Int)==5)=false from rfl,bF_,fF_,bQ_,fT_,aE_,Bool.not_eq_true',List.any_eq_false] at h
 have key:∀i j (hi:i<r.names.length) (hj:j<r.names.length),i<j->r.names[i].b ≠ r.names[j].b:=fun i j hi hj hij he=>by
  have h1:=h.2.1 j<|List.mem_range.2 hj;unfold b_G at h1
  rw [gG_ hj] at h1
  simp only [Bool.or_eq_true,not_or] at h1
  exact h1.2 (k_I.2 ⟨r.names[i],by rw [List.mem_take_iff_getElem];exact ⟨i,by omega,rfl⟩,he⟩)
 rcases Nat.lt_trichotomy i j with h1 | h1 | h1
 ·exact absurd he<|key i j hi hj h1
 ·exact h1
 ·exact absurd he.symm<|key j i hj hi h1
structure c_p (s:Str):Prop where
 step:d_g s=true
 char:∀c∈s.b,c ≠ 47
 len:s.b.length<=21
theorem o_G {s:Str}(h:a_J s=true):c_p s:=⟨by unfold d_g;rw [h];rfl,fun c hc=>(o_E h c hc).1,by have:=l_w h;omega⟩
theorem o_H {i:Nat}(h:i<=1000000000):c_p ⟨Lib.itoa i⟩:=⟨by unfold d_g;rw [k_G i (by omega)];simp,fun c hc=>by
  have:=k_B i c (by simpa only [d_e] using hc);intro he;rw [he] at this
  have:byteI (47:UInt8)=47:=rfl
  omega,l_u i h⟩
structure Ent (d:g_)(b:List UInt8)(r:a_)(at_:Nat)(ks:List Int)(num:Int):Prop where
 head:E_ d.rules b r at_ = .inr (num,ks,d_m d.rules r at_)
 lo:5<=r.kind
 hi:r.kind<=9
theorem o_I {d:g_}{b:List UInt8}{r:a_}{at_:Nat}{ks:List Int}{num:Int}(hk:a_d d.rules r=true)(h:Ent d b r at_ ks num)(H:ks.length<=40):(∀i j,i<ks.length->j<ks.length->(R_ r i).b=(R_ r j).b->i=j)/\∀i,i<ks.length->c_p (R_ r i):=by
 have hh:=h.head;have h1:=h.lo;have h2:=h.hi;generalize d_m d.rules r at_=st at hh
 have one:ks.length<=1->(∀i j,i<ks.length->j<ks.length->(R_ r i).b=(R_ r j).b->i=j):=fun h i j hi hj _=>by omega
 by_cases h5:r.kind=5
 ·have e:∀i,R_ r i=⟨Lib.itoa i⟩:=fun i=>by unfold R_;rw [h5];rfl
  exact ⟨fun i j _ _ he=>by rw [e,e] at he;exact k_D he,fun i hi=>by rw [e];exact o_H (by omega)⟩
 by_cases h6:r.kind=6
 ·unfold E_ at hh
  rw [h6] at hh
  have hks:ks=r.kids:=by cases hh;rfl
  have hs:=d_O hk h6;have e:∀i (hi:i<r.names.length),R_ r i=r.names[i]:=fun i hi=>by unfold R_;rw [h6,dT_ hi,a_2 hi];rfl
  subst hks;refine ⟨fun i j hi hj he=>?_,fun i hi=>?_⟩
  ·rw [e i (by omega),e j (by omega)] at he;exact o_F hk h6 (by omega) (by omega) he
  ·rw [e i (by omega)];exact o_G<|hs.2.2.2 _<|gE_ (by omega)
 have hlen:ks.length<=1:=by
  unfold E_ at hh
  rw [show (r.kind==5)=false by simpa using h5,show (r.kind==6)=false by simpa using h6] at hh
  simp only [bF_,fF_] at hh
  split at hh
  ·split at hh
   ·cases hh
   ·split at hh
    ·cases hh
    ·cases hh;simp
  split at hh
  ·split at hh
   ·cases hh
   ·split at hh
    ·cases hh
    ·rename_i c _ hc
     cases hh
     have:byteI c=(c.toNat:Int):=rfl
     simp;omega
  ·cases hh;simp
 refine ⟨one hlen,fun i hi=>?_⟩;have G:i=0:=by omega
 subst G;unfold R_
 rw [show (r.kind==5)=false by simpa using h5,show (r.kind==6)=false by simpa using h6]
 have:r.kind=7∨r.kind=8∨r.kind=9:=by omega
 rcases this with h | h | h <;> rw [h]
 ·exact (show c_p ⟨[42]⟩ from ⟨by decide,by decide,by decide⟩)
 ·exact (show c_p ⟨[63]⟩ from ⟨by decide,by decide,by decide⟩)
 ·exact (show c_p ⟨[43]⟩ from ⟨by decide,by decide,by decide⟩)
section
variable {d:g_}{b:List UInt8}
def a_g (en:Int->Nat->Nat)(ks:List Int)(p:Nat):Nat->Nat
 | 0=>p
 | m+1=>en (ks.getD m 0)<|a_g en ks p m
theorem h_8 (en:Int->Nat->Nat)(ks:List Int)(p m:Nat)(hm:m<ks.length):a_g en ks p (m+1)=en ks[m] (a_g en ks p m):=by
 rw [a_g,a_2 hm]
theorem d_M (en:Int->Nat->Nat)(k:Int)(ks:List Int)(p:Nat):∀m,a_g en (k::ks) p (m+1)=a_g en ks (en k p) m
 | 0=>rfl
 | m+1=>by
  rw [a_g,d_M en k ks p m];rfl
end
end Go.Vw
