
import Derived.Test.YtahlbmonbflopaaGreatDoorVf
namespace Go.Vw
open Go.RowKit Dat
theorem q_G {b:Bt}{k:Nat}(h:k<=b.length):slc b (k:Int) (b.length:Int)=some (b.drop k):=by
 have:=q_F (b:=b) (k:=k) (j:=b.length - k) (by omega)
 rw [show ((k+(b.length - k):Nat):Int)=(b.length:Int) by omega] at this
 rw [this,List.take_of_length_le (by rw [List.length_drop];omega)]
end Go.Vw
