import Derived.Test.YtfdcdeahjejlmaaGreatDoorVwVal
namespace Go.Vw
open Go.RowKit Dat
section
variable {X : Nat → Prop} {P : Program} {N : Nat} {e : Env} {w : World} {dst : Option Tmp} {ty : TypeId} {pos : String} {aft : Array Edge} {gd : Option (Nat × Bool)} {x y : Operand} {T E : Nat}
end
end Go.Vw
