
import Derived.Test.YtpjplgfnhbjjjaaGreatDoorVb
namespace Go.Vw
open Go.RowKit Dat
section
variable {d:c_}{b b':Bt}{e:Nat}
theorem i_x (x y:Bt):j_y x y=some (x==y):=rfl
end
end Go.Vw
