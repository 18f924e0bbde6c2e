
import Derived.Test.YtbhbfaljeoeciaaGreatDoorVa
namespace Go.Vw
open Go.RowKit Dat
section
variable {d:c_}{b b':List UInt8}{e:Nat}
theorem g_D (x y:List UInt8):f_r x y=some (x==y):=rfl
end
end Go.Vw
