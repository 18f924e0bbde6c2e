
import Derived.Test.YtdcjkhfonojjiaaGreatDoorVwP23
namespace Go.Vw
open Go.RowKit Dat
section
variable {d:d_}{b b':List UInt8}{e:Nat}
theorem g_b (x y:List UInt8):h_4 x y=some (x==y):=rfl
end
end Go.Vw
