
import Derived.Test.YtajhmimbhplkfaaGreatDoorVwP11
set_option linter.unusedVariables false
namespace Go.Vw
open Go.RowKit Dat
section
variable {d:d_} {b:List UInt8}
def d_E (en:Int→Nat→Nat) (ks:List Int) (p:Nat):Nat→Nat
 | 0=>p
 | m+1=>en (ks.getD m 0)<|d_E en ks p m
theorem i_Z (en:Int→Nat→Nat) (k:Int) (ks:List Int) (p:Nat) : ∀ m,d_E en (k::ks) p (m+1)=d_E en ks (en k p) m
 | 0=>rfl
 | m+1=>by
  rw [d_E,i_Z en k ks p m];rfl
theorem j_0 {rd:Int→Nat→RR} {L:Nat} : ∀ {ks:List Int} {p:Nat} {vs:List Val} {e:Nat},c_N rd L ks p vs e → ∀ m (hm:m<ks.length),d_E (fun k p=>(rd k p).2.1) ks p m≤L∧(rd ks[m] (d_E (fun k p=>(rd k p).2.1) ks p m)).2.2=0
 | k::ks,p,vs,e,h,0,_=>by
  obtain ⟨h1,h2,_⟩:=h;exact ⟨h1,h2⟩
 | k::ks,p,vs,e,h,m+1,hm=>by
  obtain ⟨_,_,ws,_,h3⟩:=h;have:=j_0 h3 m (by simpa using hm)
  rw [i_Z]
  exact this
end
end Go.Vw
