
import Derived.Test.YtgpbbhplnbndeaaGreatDoorVh
import Derived.Test.YtgpbbhplnbndeaaGreatDoorVi
namespace Go.Vw
open Go.RowKit Dat
section
variable {d:b_}
theorem vp_lt {m i:Nat}{v:Val}(h:VP d.rules m i v):i<d.rules.length:=by
 cases m with
 | zero=>exact h.elim
 | succ m=>exact h.1
end
end Go.Vw
