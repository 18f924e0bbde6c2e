
import Derived.Test.YthlifogbkgdggaaGreatDoorVwP23
namespace Go.Vw
open Go.RowKit Dat
def en2 (rd:Int->Nat->RR)(k:Int)(p:Nat):Nat:=(rd k p).2.1
theorem e_g {rd:Int->Nat->RR}{L:Nat}{ks:List Int}(hle:∀k∈ks,∀p,p<=L->p<=(rd k p).2.1/\(rd k p).2.1<=L){p:Nat}(hp:p<=L):∀t,t<=ks.length->p<=a_J (en2 rd) ks p t/\a_J (en2 rd) ks p t<=L
 | 0,_=>⟨Nat.le_refl _,hp⟩
 | t+1,ht=>by
  obtain ⟨h1,h2⟩:=e_g hle hp t (by omega);have htk:t<ks.length:=by omega
  rw [f_b _ ks p t htk]
  have:=hle _ (gE_ htk) _ h2;exact ⟨Nat.le_trans h1 this.1,this.2⟩
end Go.Vw
