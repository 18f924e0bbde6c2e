
import Derived.Test.YtlagjoejlchiiaaGreatDoorVwP15
namespace Go.Vw
open Go.RowKit Dat
theorem o_w {l:List Str}{s:Str}:c_o l s=true ↔ ∃x∈l,x.b=s.b:=by
 unfold c_o;simp
structure Ent (d:d_)(b:List UInt8)(r:b_)(at_:Nat)(ks:List Int)(num:Int):Prop where
 head:E_ d.rules b r at_ = .inr (num,ks,a_z d.rules r at_)
 lo:5<=r.kind
 hi:r.kind<=9
theorem f_r {b:List UInt8}{r:b_}{num:Int}{at_:Nat}{x:List Val×Nat×Int}(G:(a_o b r num at_ x).2.2=0)(H:r.kind=9->num=0):(a_o b r num at_ x).1.items=x.1/\(a_o b r num at_ x).1.number=num/\x.2.2=0:=by
 unfold a_o at *
 by_cases hx:x.2.2=0
 ·rw [iP_ hx] at *
  by_cases hk:r.kind=9
  ·rw [show (r.kind==9)=true by simpa using hk] at *
   simp only [fT_] at *
   cases hb:b[x.2.1]? with
   | none=>rw [hb] at G;cases G
   | some c =>
    rw [hb] at G
    simp only at G ⊢
    by_cases hs:byteI c=b_u (X_ b at_ x.2.1)
    ·rw [iP_ hs];exact ⟨rfl,(H hk).symm,hx⟩
    ·rw [iN_ hs] at G;cases G
  ·rw [show (r.kind==9)=false by simpa using hk];exact ⟨rfl,rfl,hx⟩
 ·rw [iN_ hx] at G;exact absurd G hx
section
variable {d:d_}{b:List UInt8}
theorem o_x (hb:b.length<=400){r:b_}(hk:a_d d.rules r=true){at_:Nat}(ha:at_<=b.length){ks:List Int}{num:Int}(h:Ent d b r at_ ks num)(hne:ks ≠ [])(hpos:∀k∈ks,0<=k):d_C d r b at_=some (((a_z d.rules r at_:Nat):Int),(ks.length:Int),num):=by
 have hMX:=MXv;have hh:=h.head;obtain ⟨hitem,hst,a0⟩:=j_o hk ⟨h.lo,h.hi⟩ hh;have h1:=h.lo;have h2:=h.hi
 clear hst
 unfold d_C
 by_cases h6:r.kind=6
 ·rw [h6]
  simp only [bQ_,fT_]
  unfold E_ at hh
  rw [h6] at hh
  simp only [show ((6:Int)==5)=false from rfl,bF_,fF_,bQ_,fT_] at hh
  rw [Sum.inr.injEq,Prod.mk.injEq,Prod.mk.injEq] at hh
  rw [← hh.1,← hh.2.1,← hh.2.2]
 rw [show (r.kind==6)=false by simpa using h6]
 simp only [bF_,fF_]
 by_cases H:r.kind=9
 ·rw [H]
  simp only [bQ_,fT_]
  unfold E_ at hh
  rw [H] at hh
  simp only [show ((9:Int)==5)=false from rfl,show ((9:Int)==6)=false from rfl,show ((9:Int)==7)=false from rfl,show ((9:Int)==8)=false from rfl,bF_,fF_] at hh
  rw [Sum.inr.injEq,Prod.mk.injEq,Prod.mk.injEq] at hh
  rw [← hh.1,← hh.2.1,← hh.2.2];rfl
 rw [show (r.kind==9)=false by simpa using H]
 simp only [bF_,fF_]
 by_cases I:r.kind=8
 ·rw [I]
  simp only [bQ_,fT_]
  unfold E_ at hh
  rw [I] at hh
  simp only [show ((8:Int)==5)=false from rfl,show ((8:Int)==6)=false from rfl,show ((8:Int)==7)=false from rfl,bF_,fF_,bQ_,fT_] at hh
  cases hc:b[at_]? with
  | none=>rw [hc] at hh;cases hh
  | some c =>
   rw [hc] at hh
   simp only at hh
   split at hh
   ·cases hh
   ·rename_i a1
    rw [Sum.inr.injEq,Prod.mk.injEq,Prod.mk.injEq] at hh
    have hlt:at_<b.length:=(gS_.1 hc).1;have hbc:byteI c=(c.toNat:Int):=rfl
    have a2:c.toNat ≠ 0:=fun Y=>by
     apply hne;rw [← hh.2.1,Y];rfl
    have hc1':c.toNat=1:=by omega
    rw [dT_ (show (at_:Int)<(b.length:Int) by omega),ix_ hlt]
    have:b[at_]=c:=(gS_.1 hc).2
    rw [this]
    simp only [fT_,bd_some]
    rw [show (byteI c==byteI (1:UInt8))=true by rw [hbc,hc1'];rfl]
    simp only [fT_,bd_some,el_inr]
    rw [← hh.1,← hh.2.1,← hh.2.2,ia_ (by omega) (by omega),hc1'];rfl
 rw [show (r.kind==8)=false by simpa using I]
 simp only [bF_,fF_]
 have G:r.kind=5∨r.kind=7:=by omega
 have hlim:0<lim d.rules (m_ r)/\0<r.kids.length:=by
  rcases G with h | h
  ·have:=c_e hk h;exact ⟨this.1,by omega⟩
  ·have:=c_u hk h;exact ⟨this.1,by omega⟩
 have hq:=b_o hlim.1;have hint:=f_v (b:=b) hq.1 hq.2 (by omega) ha
 have a3:bd (α:=Bool) (if (r.kind==5)=true then some (r.kind==5) else some (r.kind==7)) some=some true:=by
  rcases G with h | h <;> rw [h] <;> rfl
 have e57':(if (r.kind==5)=true then some (r.kind==5) else some (r.kind==7))=some true:=by
  rcases G with h | h <;> rw [h] <;> rfl
 rw [e57']
 simp only [bd_some,fT_]
 rw [b_e hlim.2,bd_some,hint]
 cases hi:L_ b (v_ d.rules<|m_ r) at_ with
 | none =>
  exfalso
  unfold E_ at hh
  rcases G with h | h <;> rw [h,hi] at hh <;> cases hh
 | some n =>
  simp only [bd3_some,nT_,bF_,fF_]
  have hrng:=b_g hq.2 hi
  rcases G with h5 | L
  ·unfold E_ at hh
   rw [h5,hi] at hh
   simp only [bQ_,fT_] at hh
   split at hh
   ·cases hh
   ·rename_i hn
    rw [Sum.inr.injEq,Prod.mk.injEq,Prod.mk.injEq] at hh
    rw [h5,dT_ (show n<=40 by omega)]
    simp only [bQ_,fT_,bd_some,el_inr]
    rw [← hh.1,← hh.2.1,← hh.2.2,List.length_replicate]
    simp;omega
  ·unfold E_ at hh
   rw [L,hi] at hh
   simp only [show ((7:Int)==5)=false from rfl,show ((7:Int)==6)=false from rfl,bF_,fF_,bQ_,fT_] at hh
   cases ht:a_x r.tags n with
   | none=>rw [ht] at hh;cases hh
   | some j =>
    rw [ht] at hh
    simp only at hh
    rw [Sum.inr.injEq,Prod.mk.injEq,Prod.mk.injEq] at hh
    have O:ks.length=1:=by rw [← hh.2.1];rfl
    have V:=hitem 0 (by omega);have W:=hpos ks[0] (gE_ (by omega))
    rw [hh.1]
    have J:=c_M (c_v hk) num 0
    rw [V] at J
    rw [L]
    simp only [show ((7:Int)==5)=false from rfl,bF_,fF_,bd_some,bQ_,fT_]
    have hl9':b_8 r num 0=some ks[0]:=J
    rw [hl9',bd_some,dT_ W]
    simp only [bd_some,fT_,el_inr]
    rw [← hh.2.2,O];rfl
end
end Go.Vw
