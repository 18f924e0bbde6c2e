import Derived.Test.YtfdcdeahjejlmaaGreatDoorVwP6
namespace Go.Vw
open Go.RowKit Dat
section
variable {d : Desc} {b : List UInt8}
end
end Go.Vw
