
import Derived.Test.YtbhbfaljeoeciaaGreatDoorVp
namespace Go.Vw
open Go.RowKit Dat
theorem i_R {p:Int}:a_y .i64 p 0=p:=by
 unfold a_y;rw [show (min (0:Int).toNat IntKind.i64.bits)=0 from rfl];simp
end Go.Vw
