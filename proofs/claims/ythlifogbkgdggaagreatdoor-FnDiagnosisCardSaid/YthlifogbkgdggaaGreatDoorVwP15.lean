
import Derived.Test.YthlifogbkgdggaaGreatDoorVwP11
namespace Go.Vw
open Go.RowKit Dat
theorem j_S {n:Nat}(hn:30<=n)(i:Nat)(hi:i<=1000000000000):b_d n i=some ⟨Lib.itoa i⟩:=by
 unfold b_d Lib.itoa
 rw [iN_ (show ¬(i:Int)<0 by omega)]
 by_cases G:i=0
 ·subst G
  rw [show ((((0:Nat):Int)).toNat)=0 from rfl,Lib.decDigits,dif_pos (by omega)]
  rfl
 ·rw [show ((i:Int)==0)=false by simp;omega]
  simp only [bF_,fF_]
  rw [i_m 20 i (by omega) (by omega) (by omega) ⟨[]⟩ n (by omega) (by simp),dF_ (show ¬(i:Int)<0 by omega)]
  simp
end Go.Vw
