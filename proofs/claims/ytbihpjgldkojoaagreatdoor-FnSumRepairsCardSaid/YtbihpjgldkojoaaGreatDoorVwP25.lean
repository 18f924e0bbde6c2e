
import Derived.Test.YtbihpjgldkojoaaGreatDoorVwP24
namespace Go.Vw
open Go.RowKit Dat
section
variable {d:g_}{b b':Bt}{e:Nat}
theorem p_Y (hd:SmD d){n:Nat}(hn:500<=n):f_L n d b=some (okF d b):=by
 unfold f_L okF
 rw [q_J hd hn];rfl
end
end Go.Vw
