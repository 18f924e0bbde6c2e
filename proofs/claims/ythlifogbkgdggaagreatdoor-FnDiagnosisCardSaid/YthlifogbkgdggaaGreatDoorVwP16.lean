
import Derived.Test.YthlifogbkgdggaaGreatDoorVwP15
namespace Go.Vw
open Go.RowKit Dat
structure Ent (d:d_)(b:List UInt8)(r:g_)(at_:Nat)(ks:List Int)(num:Int):Prop where
 head:O_ d.rules b r at_ = .inr (num,ks,d_7 d.rules r at_)
 lo:5<=r.kind
 hi:r.kind<=9
section
variable {d:d_}{b:List UInt8}
theorem j_T (hb:b.length<=400){r:g_}(hk:a_8 d.rules r=true){at_:Nat}(ha:at_<=b.length){ks:List Int}{num:Int}(h:Ent d b r at_ ks num)(hne:ks ≠ [])(hpos:∀k∈ks,0<=k):d_I d r b at_=some (((d_7 d.rules r at_:Nat):Int),(ks.length:Int),num):=by
 have hMX:=MXv;have hh:=h.head;obtain ⟨hitem,hst,a0⟩:=k_k hk ⟨h.lo,h.hi⟩ hh;have h1:=h.lo;have h2:=h.hi
 clear hst
 unfold d_I
 by_cases h6:r.kind=6
 ·rw [h6]
  simp only [bQ_,fT_]
  unfold O_ at hh
  rw [h6] at hh
  simp only [show ((6:Int)==5)=false from rfl,bF_,fF_,bQ_,fT_] at hh
  rw [Sum.inr.injEq,Prod.mk.injEq,Prod.mk.injEq] at hh
  rw [← hh.1,← hh.2.1,← hh.2.2]
 rw [show (r.kind==6)=false by simpa using h6]
 simp only [bF_,fF_]
 by_cases H:r.kind=9
 ·rw [H]
  simp only [bQ_,fT_]
  unfold O_ at hh
  rw [H] at hh
  simp only [show ((9:Int)==5)=false from rfl,show ((9:Int)==6)=false from rfl,show ((9:Int)==7)=false from rfl,show ((9:Int)==8)=false from rfl,bF_,fF_] at hh
  rw [Sum.inr.injEq,Prod.mk.injEq,Prod.mk.injEq] at hh
  rw [← hh.1,← hh.2.1,← hh.2.2];rfl
 rw [show (r.kind==9)=false by simpa using H]
 simp only [bF_,fF_]
 by_cases I:r.kind=8
 ·rw [I]
  simp only [bQ_,fT_]
  unfold O_ at hh
  rw [I] at hh
  simp only [show ((8:Int)==5)=false from rfl,show ((8:Int)==6)=false from rfl,show ((8:Int)==7)=false from rfl,bF_,fF_,bQ_,fT_] at hh
  cases hc:b[at_]? with
  | none=>rw [hc] at hh;cases hh
  | some c =>
   rw [hc] at hh
   simp only at hh
   split at hh
   ·cases hh
   ·rename_i a1
    rw [Sum.inr.injEq,Prod.mk.injEq,Prod.mk.injEq] at hh
    have hlt:at_<b.length:=(gS_.1 hc).1;have hbc:byteI c=(c.toNat:Int):=rfl
    have a2:c.toNat ≠ 0:=fun Y=>by
     apply hne;rw [← hh.2.1,Y];rfl
    have hc1':c.toNat=1:=by omega
    rw [dT_ (show (at_:Int)<(b.length:Int) by omega),ix_ hlt]
    have:b[at_]=c:=(gS_.1 hc).2
    rw [this]
    simp only [fT_,bd_some]
    rw [show (byteI c==byteI (1:UInt8))=true by rw [hbc,hc1'];rfl]
    simp only [fT_,bd_some,el_inr]
    rw [← hh.1,← hh.2.1,← hh.2.2,ia_ (by omega) (by omega),hc1'];rfl
 rw [show (r.kind==8)=false by simpa using I]
 simp only [bF_,fF_]
 have G:r.kind=5∨r.kind=7:=by omega
 have hlim:0<lim d.rules (C_ r)/\0<r.kids.length:=by
  rcases G with h | h
  ·have:=c_n hk h;exact ⟨this.1,by omega⟩
  ·have:=c_o hk h;exact ⟨this.1,by omega⟩
 have hq:=b_m hlim.1;have hint:=f_c (b:=b) hq.1 hq.2 (by omega) ha
 have a3:bd (α:=Bool) (if (r.kind==5)=true then some (r.kind==5) else some (r.kind==7)) some=some true:=by
  rcases G with h | h <;> rw [h] <;> rfl
 have e57':(if (r.kind==5)=true then some (r.kind==5) else some (r.kind==7))=some true:=by
  rcases G with h | h <;> rw [h] <;> rfl
 rw [e57']
 simp only [bd_some,fT_]
 rw [b_9 hlim.2,bd_some,hint]
 cases hi:a_a b (F_ d.rules<|C_ r) at_ with
 | none =>
  exfalso
  unfold O_ at hh
  rcases G with h | h <;> rw [h,hi] at hh <;> cases hh
 | some n =>
  simp only [bd3_some,nT_,bF_,fF_]
  have hrng:=b_b hq.2 hi
  rcases G with h5 | L
  ·unfold O_ at hh
   rw [h5,hi] at hh
   simp only [bQ_,fT_] at hh
   split at hh
   ·cases hh
   ·rename_i hn
    rw [Sum.inr.injEq,Prod.mk.injEq,Prod.mk.injEq] at hh
    rw [h5,dT_ (show n<=40 by omega)]
    simp only [bQ_,fT_,bd_some,el_inr]
    rw [← hh.1,← hh.2.1,← hh.2.2,List.length_replicate]
    simp;omega
  ·unfold O_ at hh
   rw [L,hi] at hh
   simp only [show ((7:Int)==5)=false from rfl,show ((7:Int)==6)=false from rfl,bF_,fF_,bQ_,fT_] at hh
   cases ht:a_w r.tags n with
   | none=>rw [ht] at hh;cases hh
   | some j =>
    rw [ht] at hh
    simp only at hh
    rw [Sum.inr.injEq,Prod.mk.injEq,Prod.mk.injEq] at hh
    have O:ks.length=1:=by rw [← hh.2.1];rfl
    have V:=hitem 0 (by omega);have W:=hpos ks[0] (gE_ (by omega))
    rw [hh.1]
    have J:=d_0 (d_C hk) num 0
    rw [V] at J
    rw [L]
    simp only [show ((7:Int)==5)=false from rfl,bF_,fF_,bd_some,bQ_,fT_]
    have hl9':b_z r num 0=some ks[0]:=J
    rw [hl9',bd_some,dT_ W]
    simp only [bd_some,fT_,el_inr]
    rw [← hh.2.2,O];rfl
def a_J (en:Int->Nat->Nat)(ks:List Int)(p:Nat):Nat->Nat
 | 0=>p
 | m+1=>en (ks.getD m 0)<|a_J en ks p m
theorem f_b (en:Int->Nat->Nat)(ks:List Int)(p m:Nat)(hm:m<ks.length):a_J en ks p (m+1)=en ks[m] (a_J en ks p m):=by
 rw [a_J,a_m hm]
end
end Go.Vw
