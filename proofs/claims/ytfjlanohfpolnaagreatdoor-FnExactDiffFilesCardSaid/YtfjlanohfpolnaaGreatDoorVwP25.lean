
import Derived.Test.YtfjlanohfpolnaaGreatDoorVwP23
namespace Go.Vw
open Go.RowKit Dat
section
variable {d:e_}{b b':List UInt8}{e:Nat}
theorem g_q (x y:List UInt8):h_f x y=some (x==y):=rfl
end
end Go.Vw
