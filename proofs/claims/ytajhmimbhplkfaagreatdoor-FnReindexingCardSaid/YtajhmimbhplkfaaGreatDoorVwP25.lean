
import Derived.Test.YtajhmimbhplkfaaGreatDoorVwP23
set_option linter.unusedVariables false
namespace Go.Vw
open Go.RowKit Dat
section
variable {d:d_} {b b':List UInt8} {e:Nat}
end
end Go.Vw
