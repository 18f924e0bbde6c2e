
import Derived.Test.YtpjplgfnhbjjjaaGreatDoorVp
namespace Go.Vw
open Go.RowKit Dat
theorem k_i {p:Int}:a_t .i64 p 0=p:=by
 unfold a_t;rw [show (min (0:Int).toNat IntKind.i64.bits)=0 from rfl];simp
end Go.Vw
