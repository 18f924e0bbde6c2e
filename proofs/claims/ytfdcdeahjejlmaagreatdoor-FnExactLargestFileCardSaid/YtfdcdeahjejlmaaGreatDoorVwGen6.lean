import Derived.Test.YtfdcdeahjejlmaaGreatDoorVwGen5
namespace Go.Vw
open Go.RowKit Dat
section
variable {X : Nat → Prop} {P : Program} {N : Nat} {e : Env} {w : World} {dst : Option Tmp} {ty : TypeId} {pos : String} {aft : Array Edge} {gd : Option (Nat × Bool)} {x y z : Operand} {T T' E : Nat}
end
end Go.Vw
