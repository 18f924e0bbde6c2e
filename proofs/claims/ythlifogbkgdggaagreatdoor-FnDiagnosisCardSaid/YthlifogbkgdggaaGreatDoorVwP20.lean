
import Derived.Test.YthlifogbkgdggaaGreatDoorVwP17
namespace Go.Vw
open Go.RowKit Dat
def rdK (rs:List g_)(b:List UInt8)(k:Int)(p:Nat):RR:=rdW rs b k.toNat p
section
variable {d:d_}{b:List UInt8}
theorem m_z (hb:b.length<=400){r:g_}(hk:a_8 d.rules r=true){at_:Nat}(ha:at_<=b.length)(h:¬(5<=r.kind/\r.kind<=9)∨(∃c,O_ d.rules b r at_ = .inl c)∨∃num st,O_ d.rules b r at_ = .inr (num,[],st)):∃a m x,d_I d r b at_=some (a,m,x)/\m.toNat=0:=by
 have hMX:=MXv;unfold d_I
 by_cases h6:r.kind=6
 ·exfalso
  have hs:=f_e hk h6;unfold O_ at h
  rw [h6] at h
  simp only [show ((6:Int)==5)=false from rfl,bF_,fF_,bQ_,fT_] at h
  rcases h with h | ⟨c,h⟩ | ⟨num,st,h⟩
  ·omega
  ·cases h
  ·rw [Sum.inr.injEq,Prod.mk.injEq,Prod.mk.injEq] at h
   have:=hs.2.1
   rw [h.2.1] at this;simp at this
 rw [show (r.kind==6)=false by simpa using h6]
 simp only [bF_,fF_]
 by_cases J:r.kind=9
 ·exfalso
  unfold O_ at h
  rw [J] at h
  simp only [show ((9:Int)==5)=false from rfl,show ((9:Int)==6)=false from rfl,show ((9:Int)==7)=false from rfl,show ((9:Int)==8)=false from rfl,bF_,fF_] at h
  rcases h with h | ⟨c,h⟩ | ⟨num,st,h⟩
  ·omega
  ·cases h
  ·rw [Sum.inr.injEq,Prod.mk.injEq,Prod.mk.injEq] at h
   cases h.2.1
 rw [show (r.kind==9)=false by simpa using J]
 simp only [bF_,fF_]
 by_cases H:r.kind=8
 ·rw [H]
  simp only [bQ_,fT_]
  unfold O_ at h
  rw [H] at h
  simp only [show ((8:Int)==5)=false from rfl,show ((8:Int)==6)=false from rfl,show ((8:Int)==7)=false from rfl,bF_,fF_,bQ_,fT_] at h
  cases hc:b[at_]? with
  | none =>
   have:b.length<=at_:=List.getElem?_eq_none_iff.1 hc
   rw [dF_ (show ¬(at_:Int)<(b.length:Int) by omega)]
   exact ⟨_,_,_,rfl,rfl⟩
  | some c =>
   have hlt:at_<b.length:=(gS_.1 hc).1;have hbc:byteI c=(c.toNat:Int):=rfl
   rw [hc] at h
   simp only at h
   have hne:c.toNat ≠ 1:=fun h1=>by
    rw [iN_ (by omega),h1] at h
    rcases h with h | ⟨c,h⟩ | ⟨num,st,h⟩
    ·omega
    ·cases h
    ·rw [Sum.inr.injEq,Prod.mk.injEq,Prod.mk.injEq] at h
     cases h.2.1
   rw [dT_ (show (at_:Int)<(b.length:Int) by omega),ix_ hlt]
   have:b[at_]=c:=(gS_.1 hc).2
   rw [this]
   simp only [fT_,bd_some]
   rw [show (byteI c==byteI (1:UInt8))=false by rw [beqB,dF_<|fun h=>hne (by rw [h];rfl)]]
   exact ⟨_,_,_,rfl,rfl⟩
 rw [show (r.kind==8)=false by simpa using H]
 simp only [bF_,fF_]
 by_cases G:r.kind=5∨r.kind=7
 rotate_left
 ·have O:(r.kind==5)=false:=by simp;omega
  have V:(r.kind==7)=false:=by simp;omega
  rw [O,V]
  exact ⟨_,_,_,rfl,rfl⟩
 have hlim:0<lim d.rules (C_ r)/\0<r.kids.length:=by
  rcases G with h | h
  ·have:=c_n hk h;exact ⟨this.1,by omega⟩
  ·have:=c_o hk h;exact ⟨this.1,by omega⟩
 have hq:=b_m hlim.1;have hint:=f_c (b:=b) hq.1 hq.2 (by omega) ha
 have e57':(if (r.kind==5)=true then some (r.kind==5) else some (r.kind==7))=some true:=by
  rcases G with h | h <;> rw [h] <;> rfl
 rw [e57']
 simp only [bd_some,fT_]
 rw [b_9 hlim.2,bd_some,hint]
 cases hi:a_a b (F_ d.rules<|C_ r) at_ with
 | none=>exact ⟨_,_,_,rfl,rfl⟩
 | some n =>
  simp only [bd3_some,nT_,bF_,fF_]
  have hrng:=b_b hq.2 hi
  rcases G with h5 | I
  ·unfold O_ at h
   rw [h5,hi] at h
   simp only [bQ_,fT_] at h
   rw [h5]
   simp only [bQ_,fT_,bd_some]
   by_cases hn:40<n
   ·rw [dF_ (show ¬n<=40 by omega)]
    exact ⟨_,_,_,rfl,rfl⟩
   ·rw [iN_ hn] at h
    rw [dT_ (show n<=40 by omega)]
    rcases h with h | ⟨c,h⟩ | ⟨num,st,h⟩
    ·omega
    ·cases h
    ·rw [Sum.inr.injEq,Prod.mk.injEq,Prod.mk.injEq] at h
     exact ⟨_,_,_,rfl,by have:=congrArg List.length h.2.1;simpa using this⟩
  ·unfold O_ at h
   rw [I,hi] at h
   simp only [show ((7:Int)==5)=false from rfl,show ((7:Int)==6)=false from rfl,bF_,fF_,bQ_,fT_] at h
   cases ht:a_w r.tags n with
   | some j =>
    rw [ht] at h
    simp only at h
    rcases h with h | ⟨c,h⟩ | ⟨num,st,h⟩
    ·omega
    ·cases h
    ·rw [Sum.inr.injEq,Prod.mk.injEq,Prod.mk.injEq] at h
     cases h.2.1
   | none =>
    have L:b_z r n 0=some (a_c r n 0):=d_0 (d_C hk) n 0;have hit:a_c r n 0 = -1:=by unfold a_c;rw [I,ht];rfl
    rw [L,hit,I]
    exact ⟨_,_,_,rfl,rfl⟩
end
end Go.Vw
