
import Derived.Test.YtgpbbhplnbndeaaGreatDoorV5
namespace Go.Vw
open Go.RowKit Dat
theorem g_x (x y:Int):c_k x y=some (min x y):=by
 unfold c_k
 by_cases hlt:y<x
 .rw [dT_ hlt];simp only [fT_];congr 1;omega
 .rw [dF_ hlt];simp only [bF_,fF_];congr 1;omega
section
variable {b:Bt}{k:Nat}
end
theorem q_G {b:Bt}{k j:Nat}(h:k+j<=b.length):slc b (k:Int) ((k+j:Nat):Int)=some ((b.drop k).take j):=by
 rw [j_x (by omega) (by omega) (by omega)]
 congr 1
 simp only [tN_]
 rw [List.drop_take,show k+j - k=j by omega]
end Go.Vw
