
import Derived.Test.YtahlbmonbflopaaGreatDoorVm
namespace Go.Vw
open Go.RowKit Dat
theorem m_E {rs:List b_}{r:b_}(h:a_2 rs r=true)(hk:r.kind=6){k:Nat}(hk':k<r.names.length):r.names[k]∉r.names.take k:=by
 unfold a_2 at h
 rw [hk] at h
 simp only [show ((6:Int)==1)=false from rfl,show ((6:Int)==2)=false from rfl,show ((6:Int)==3)=false from rfl,show ((6:Int)==4)=false from rfl,show ((6:Int)==5)=false from rfl,bF_,fF_,bQ_,fT_,aE_] at h
 have:=h.2.1
 rw [Bool.not_eq_true',List.any_eq_false] at this
 have:=this k<|List.mem_range.2 hk';unfold b_M at this
 rw [gG_ hk'] at this
 simp only [Bool.or_eq_true,Bool.not_eq_true',not_or] at this
 intro hm;exact this.2<|q_s.2 ⟨_,hm,rfl⟩
structure WG (d:c_)(S g:Nat->Nat):Prop where
 fix:∀j (hj:j<d.rules.length),(d.rules[j]).kind=3->(d.rules[j]).size.toNat<=S j/\(d.rules[j]).size.toNat+1<=g j
 seq:∀j (hj:j<d.rules.length),(d.rules[j]).kind=6->(d.rules[j]).kids.length * (1+S (j - 1))<=S j/\g (j - 1)+(d.rules[j]).kids.length * (1+S (j - 1))+1<=g j
 one:∀j (hj:j<d.rules.length),(d.rules[j]).kind=7∨(d.rules[j]).kind=9->1+S (j - 1)<=S j
 stp:∀j,0<j->j<d.rules.length->g (j - 1)+1<=g j
 two:2<=g 0
 sm:∀i j,i<=j->S i<=S j
 gm:∀i j,i<=j->g i<=g j
 top:g (d.rules.length - 1)<=611000
theorem WG.gtwo {d:c_}{S g:Nat->Nat}(h:WG d S g)(j:Nat):2<=g j:=Nat.le_trans h.two<|h.gm 0 j<|Nat.zero_le _
end Go.Vw
