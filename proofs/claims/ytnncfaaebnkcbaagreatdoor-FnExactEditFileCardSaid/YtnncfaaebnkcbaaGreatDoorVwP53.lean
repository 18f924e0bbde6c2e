
import Derived.Test.YtnncfaaebnkcbaaGreatDoorVwP52
namespace Go.Vw
open Go.RowKit Dat
theorem q_r {s:Int}(h1:1<=s)(h4:s<=4):d_E s=some (b_j .i64 1<|8 * s):=by
 unfold d_E
 rw [g_K (by omega) (by omega),show nn (8 * s)=some () from by unfold nn;rw [iP_ (by omega)],bd_some]
end Go.Vw
