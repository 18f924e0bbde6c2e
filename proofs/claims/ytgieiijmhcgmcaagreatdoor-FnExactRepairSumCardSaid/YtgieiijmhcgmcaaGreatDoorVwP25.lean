
import Derived.Test.YtgieiijmhcgmcaaGreatDoorVwP23
namespace Go.Vw
open Go.RowKit Dat
section
variable {d:g_}{b b':List UInt8}{e:Nat}
theorem p_6 (hd:SmD d){n:Nat}(hn:500<=n):e_I n d b=some (okF d b):=by
 unfold e_I okF
 rw [p_G hd hn];rfl
end
end Go.Vw
