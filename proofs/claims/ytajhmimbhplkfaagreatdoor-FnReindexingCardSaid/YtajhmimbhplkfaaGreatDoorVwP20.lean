
import Derived.Test.YtajhmimbhplkfaaGreatDoorVwP17
import Derived.Test.YtajhmimbhplkfaaGreatDoorVwP19
set_option linter.unusedVariables false
namespace Go.Vw
open Go.RowKit Dat
section
variable {d:d_} {b:List UInt8}
end
end Go.Vw
