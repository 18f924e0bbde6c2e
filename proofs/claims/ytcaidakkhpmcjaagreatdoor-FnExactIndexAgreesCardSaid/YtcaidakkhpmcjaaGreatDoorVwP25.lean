
import Derived.Test.YtcaidakkhpmcjaaGreatDoorVwP23
namespace Go.Vw
open Go.RowKit Dat
section
variable {d:b_}{b b':List UInt8}{e:Nat}
theorem r_4 (x y:List UInt8):h_A x y=some (x==y):=rfl
end
end Go.Vw
