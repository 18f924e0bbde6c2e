
import Derived.Test.YtajhmimbhplkfaaGreatDoorVwP15
set_option linter.unusedVariables false
namespace Go.Vw
open Go.RowKit Dat
theorem p_4 {l:List Str} {s:Str}:c_F l s=true ↔ ∃ x∈l,x.b=s.b:=by
 unfold c_F;simp
structure Ent (d:f_) (b:List UInt8) (r:e_) (at_:Nat) (ks:List Int) (num:Int):Prop where
 head:M_ d.rules b r at_ = .inr (num,ks,a_y d.rules r at_)
 lo:5≤r.kind
 hi:r.kind≤9
section
variable {d:f_} {b:List UInt8}
theorem p_5 (hb:b.length≤400) {r:e_} (hk:a_n d.rules r=true) {at_:Nat} (ha:at_≤b.length) {ks:List Int} {num:Int} (h:Ent d b r at_ ks num) (hne:ks ≠ []) (hpos : ∀ k∈ks,0≤k):e_1 d r b at_=some (((a_y d.rules r at_:Nat):Int),(ks.length:Int),num):=by
 have hMX:=MXv;have hh:=h.head;obtain ⟨hitem,hst,hn9⟩:=k_d hk ⟨h.lo,h.hi⟩ hh;have h1:=h.lo;have h2:=h.hi
 clear hst
 unfold e_1
 by_cases h6:r.kind=6
 ·rw [h6]
  simp only [bQ_,fT_]
  unfold M_ at hh
  rw [h6] at hh
  simp only [show ((6:Int)==5)=false from rfl,bF_,fF_,bQ_,fT_] at hh
  rw [Sum.inr.injEq,Prod.mk.injEq,Prod.mk.injEq] at hh
  rw [← hh.1,← hh.2.1,← hh.2.2]
 rw [show (r.kind==6)=false by simpa using h6]
 simp only [bF_,fF_]
 by_cases h9:r.kind=9
 ·rw [h9]
  simp only [bQ_,fT_]
  unfold M_ at hh
  rw [h9] at hh
  simp only [show ((9:Int)==5)=false from rfl,show ((9:Int)==6)=false from rfl,show ((9:Int)==7)=false from rfl,show ((9:Int)==8)=false from rfl,bF_,fF_] at hh
  rw [Sum.inr.injEq,Prod.mk.injEq,Prod.mk.injEq] at hh
  rw [← hh.1,← hh.2.1,← hh.2.2];rfl
 rw [show (r.kind==9)=false by simpa using h9]
 simp only [bF_,fF_]
 by_cases h8:r.kind=8
 ·rw [h8]
  simp only [bQ_,fT_]
  unfold M_ at hh
  rw [h8] at hh
  simp only [show ((8:Int)==5)=false from rfl,show ((8:Int)==6)=false from rfl,show ((8:Int)==7)=false from rfl,bF_,fF_,bQ_,fT_] at hh
  cases hc:b[at_]? with
  | none=>rw [hc] at hh;cases hh
  | some c =>
   rw [hc] at hh
   simp only at hh
   split at hh
   ·cases hh
   ·rename_i hc1
    rw [Sum.inr.injEq,Prod.mk.injEq,Prod.mk.injEq] at hh
    have hlt:at_<b.length:=(gS_.1 hc).1;have hbc:byteI c=(c.toNat:Int):=rfl
    have hc0:c.toNat ≠ 0:=fun h0=>by
     apply hne;rw [← hh.2.1,h0];rfl
    have hc1':c.toNat=1:=by omega
    rw [dT_ (show (at_:Int)<(b.length:Int) by omega),ix_ hlt]
    have:b[at_]=c:=(gS_.1 hc).2
    rw [this]
    simp only [fT_,bd_some]
    rw [show (byteI c==byteI (1:UInt8))=true by rw [hbc,hc1'];rfl]
    simp only [fT_,bd_some,el_inr]
    rw [← hh.1,← hh.2.1,← hh.2.2,ia_ (by omega) (by omega),hc1'];rfl
 rw [show (r.kind==8)=false by simpa using h8]
 simp only [bF_,fF_]
 have h57:r.kind=5∨r.kind=7:=by omega
 have hlim:0<lim d.rules (t_ r)∧0<r.kids.length:=by
  rcases h57 with h | h
  ·have:=c_L hk h;exact ⟨this.1,by omega⟩
  ·have:=d_2 hk h;exact ⟨this.1,by omega⟩
 have hq:=b_h hlim.1;have hint:=f_8 (b:=b) hq.1 hq.2 (by omega) ha
 have e57:bd (α:=Bool) (if (r.kind==5)=true then some (r.kind==5) else some (r.kind==7)) some=some true:=by
  rcases h57 with h | h <;> rw [h] <;> rfl
 have e57':(if (r.kind==5)=true then some (r.kind==5) else some (r.kind==7))=some true:=by
  rcases h57 with h | h <;> rw [h] <;> rfl
 rw [e57']
 simp only [bd_some,fT_]
 rw [b_n hlim.2,bd_some,hint]
 cases hi:U_ b (F_ d.rules<|t_ r) at_ with
 | none =>
  exfalso
  unfold M_ at hh
  rcases h57 with h | h <;> rw [h,hi] at hh <;> cases hh
 | some n =>
  simp only [bd3_some,nT_,bF_,fF_]
  have hrng:=b_z hq.2 hi
  rcases h57 with h5 | h7
  ·unfold M_ at hh
   rw [h5,hi] at hh
   simp only [bQ_,fT_] at hh
   split at hh
   ·cases hh
   ·rename_i hn
    rw [Sum.inr.injEq,Prod.mk.injEq,Prod.mk.injEq] at hh
    rw [h5,dT_ (show n≤40 by omega)]
    simp only [bQ_,fT_,bd_some,el_inr]
    rw [← hh.1,← hh.2.1,← hh.2.2,List.length_replicate]
    simp;omega
  ·unfold M_ at hh
   rw [h7,hi] at hh
   simp only [show ((7:Int)==5)=false from rfl,show ((7:Int)==6)=false from rfl,bF_,fF_,bQ_,fT_] at hh
   cases ht:a_G r.tags n with
   | none=>rw [ht] at hh;cases hh
   | some j =>
    rw [ht] at hh
    simp only at hh
    rw [Sum.inr.injEq,Prod.mk.injEq,Prod.mk.injEq] at hh
    have hl1:ks.length=1:=by rw [← hh.2.1];rfl
    have hi0:=hitem 0 (by omega);have hp0:=hpos ks[0] (gE_ (by omega))
    rw [hh.1]
    have hl9:=d_V (e_u hk) num 0
    rw [hi0] at hl9
    rw [h7]
    simp only [show ((7:Int)==5)=false from rfl,bF_,fF_,bd_some,bQ_,fT_]
    have hl9':b_p r num 0=some ks[0]:=hl9
    rw [hl9',bd_some,dT_ hp0]
    simp only [bd_some,fT_,el_inr]
    rw [← hh.2.2,hl1];rfl
def e_r (en:Int→Nat→Nat) (ks:List Int) (p:Nat):Nat→Nat
 | 0=>p
 | m+1=>en (ks.getD m 0)<|e_r en ks p m
theorem j_U (en:Int→Nat→Nat) (k:Int) (ks:List Int) (p:Nat) : ∀ m,e_r en (k::ks) p (m+1)=e_r en ks (en k p) m
 | 0=>rfl
 | m+1=>by
  rw [e_r,j_U en k ks p m];rfl
theorem l_v {rd:Int→Nat→RR} {L:Nat} : ∀ {ks:List Int} {p:Nat} {vs:List Val} {e:Nat},d_Y rd L ks p vs e → ∀ m (hm:m<ks.length),e_r (fun k p=>(rd k p).2.1) ks p m≤L∧(rd ks[m] (e_r (fun k p=>(rd k p).2.1) ks p m)).2.2=0
 | k::ks,p,vs,e,h,0,_=>by
  obtain ⟨h1,h2,_⟩:=h;exact ⟨h1,h2⟩
 | k::ks,p,vs,e,h,m+1,hm=>by
  obtain ⟨_,_,ws,_,h3⟩:=h;have:=l_v h3 m (by simpa using hm)
  rw [j_U]
  exact this
end
end Go.Vw
