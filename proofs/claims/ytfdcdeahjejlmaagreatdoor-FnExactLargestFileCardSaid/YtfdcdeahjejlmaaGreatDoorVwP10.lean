import Derived.Test.YtfdcdeahjejlmaaGreatDoorVwP9
namespace Go.Vw
open Go.RowKit Dat
section
variable {d : Desc} {b : List UInt8}
def okF (d : Desc) (b : List UInt8) : Bool := (readF d b).2.2 == 0
theorem spec_IsFileOf (hd : SmD d) {n : Nat} (hn : 500 ≤ n) : M_spec_IsFileOf n d b = some (okF d b) := by
 unfold M_spec_IsFileOf okF
 rw [spec_ReadFile hd hn]; rfl
end
end Go.Vw
