
import Derived.Test.YtgieiijmhcgmcaaGreatDoorVwP9
namespace Go.Vw
open Go.RowKit Dat
section
variable {d:g_}{b:List UInt8}
def okF (d:g_)(b:List UInt8):Bool:=(a_l d b).2.2==0
theorem o_l (hd:SmD d){n:Nat}(hn:500<=n):e_A n d b=some (okF d b):=by
 unfold e_A okF
 rw [l_t hd hn];rfl
end
end Go.Vw
