
import Derived.Test.YtgpbbhplnbndeaaGreatDoorVk
namespace Go.Vw
open Go.RowKit Dat
theorem j_m {p:Int}:a_h .i64 p 0=p:=by
 unfold a_h;rw [show (min (0:Int).toNat IntKind.i64.bits)=0 from rfl];simp
end Go.Vw
