
import Derived.Test.YthlifogbkgdggaaGreatDoorVwP20
namespace Go.Vw
open Go.RowKit Dat
section
variable {d:d_}{b:List UInt8}
theorem i_b (hv:a_9 d=true){k:Int}(G:0<=k)(hk:k<d.rules.length){p:Nat}(hp:p<=b.length)(h1:d_B (F_ d.rules k)) :
  rdK d.rules b k p=(match a_a b (F_ d.rules k) p with | none=>(zV,p,1) | some n=>(⟨n,[],[]⟩,p+(F_ d.rules k).size.toNat,0)):=by
 unfold rdK
 rw [g_U hv (by omega) hp]
 have:d.rules[k.toNat]'(by omega)=F_ d.rules k:=by unfold F_;rw [gD_,gG_ (by omega)];rfl
 rw [this]
 unfold rdB
 rw [h1.1];rfl
end
end Go.Vw
