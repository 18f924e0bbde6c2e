
import Derived.Test.YtajhmimbhplkfaaGreatDoorVwP11
set_option linter.unusedVariables false
namespace Go.Vw
open Go.RowKit Dat
end Go.Vw
