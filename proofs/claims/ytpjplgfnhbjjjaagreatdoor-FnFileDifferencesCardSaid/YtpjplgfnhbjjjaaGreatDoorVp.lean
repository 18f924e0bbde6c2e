
import Derived.Test.YtpjplgfnhbjjjaaGreatDoorV5
namespace Go.Vw
open Go.RowKit Dat
section
variable {b:Bt}{k:Nat}
end
theorem s_j {b:Bt}{k j:Nat}(h:k+j<=b.length):slc b (k:Int) ((k+j:Nat):Int)=some ((b.drop k).take j):=by
 rw [f_A (by omega) (by omega) (by omega)]
 congr 1
 simp only [tN_]
 rw [List.drop_take,show k+j - k=j by omega]
end Go.Vw
