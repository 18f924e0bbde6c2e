
import Derived.Test.YtnncfaaebnkcbaaGreatDoorVwP32
namespace Go.Vw
open Go.RowKit Dat
theorem i_w {p:Int}:a_H .i64 p 0=p:=by
 unfold a_H;rw [show (min (0:Int).toNat IntKind.i64.bits)=0 from rfl];simp
end Go.Vw
