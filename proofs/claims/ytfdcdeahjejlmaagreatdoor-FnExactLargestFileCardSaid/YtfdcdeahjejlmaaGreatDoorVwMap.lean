import Derived.Test.YtfdcdeahjejlmaaGreatDoorVwGen6
import Derived.DeepKeys4
namespace Go.Vw
open Go.RowKit Dat
section
variable {α : Type} {kv : α → Value} {ok : α → Prop} {w w' : World} {g : Nat} {f : α → Bool}
variable {X : Nat → Prop} {P : Program} {N : Nat} {e : Env} {dst : Option Tmp} {ty : TypeId} {p : String} {aft : Array Edge} {gd : Option (Nat × Bool)} {x y z : Operand} {T : Nat} {k : α}
end
theorem nm0 {k : Nat} : k ∉ ([] : List Nat) := by simp
end Go.Vw
