
import Derived.Test.YtgpbbhplnbndeaaGreatDoorV6
namespace Go.Vw
open Go.RowKit Dat
theorem e_c (x:Nat):Lib.itoa x=Lib.decDigits x:=by unfold Lib.itoa;rw [iN_ (by omega)];simp
theorem j_c {α:Type}{l:List α}{k:Nat}(h:k<l.length):l.take (k+1)=l.take k++[l[k]]:=by rw [List.take_add_one,gG_ h];rfl
end Go.Vw
