import Derived.Test.YtfdcdeahjejlmaaGreatDoorVqGen5
import Derived.DeepKeys4
set_option linter.unusedVariables false
namespace Go.Vw
open Go.RowKit Dat
section
variable {X : Nat → Prop} {P : Program} {N : Nat} {e : Env} {w : World} {dst : Option Tmp} {ty : TypeId} {pos : String} {aft : Array Edge} {gd : Option (Nat × Bool)} {x y z : Operand} {T T' E : Nat}
end
end Go.Vw
set_option linter.unusedVariables false
namespace Go.Vw
open Go.RowKit Dat
section
variable {α : Type} {kv : α → Value} {ok : α → Prop} {w w' : World} {g : Nat} {f : α → Bool}
variable {X : Nat → Prop} {P : Program} {N : Nat} {e : Env} {dst : Option Tmp} {ty : TypeId} {p : String} {aft : Array Edge} {gd : Option (Nat × Bool)} {x y z : Operand} {T : Nat} {k : α}
end
theorem nm0 {k : Nat} : k ∉ ([] : List Nat) := by simp
end Go.Vw
set_option linter.unusedVariables false
namespace Go.Vw
open Go.RowKit Dat
section
variable {X : Nat → Prop} {P : Program} {N : Nat} {e : Env} {w : World} {dst : Option Tmp} {ty : TypeId} {pos : String} {aft : Array Edge} {gd : Option (Nat × Bool)} {x : Operand}
theorem o_x {f : FuncId} {caps : List Operand} {vs : List Value} (hv : evs e caps = some vs) : Rd X P N ⟨dst, .makeFunc (.func f) #[] caps.toArray, ty, pos, aft, gd⟩ e w (.func (.func f) #[] vs.toArray) := fun a ha w' _ => by
 have hm : (caps.toArray.map a.eval) = vs.toArray := by rw [List.map_toArray, ha.evs hv]
 simp [execOp, Instr.makeFunc, hm]
theorem h_9 {f : FuncId} {args : List Operand} {tys : Array TypeId} {vs caps : List Value} {R : Value → World → Prop} (hcall : ∀ (args : Array Value) (w : World), (callFunc f args).run P w = .ok (.enter f args) w) (hx : ev e x = some (.func (.func f) #[] caps.toArray)) (hv : evs e args = some vs) (hc : j_ P f (vs ++ caps) w R) :
  Ef P N ⟨dst, .call { callee := .value x, args := args.toArray, argTypes := tys }, ty, pos, aft, gd⟩ e w R := ⟨fun a ha Q => by
 have hm : (args.toArray.map a.eval) = vs.toArray := by rw [List.map_toArray, ha.evs hv]
 unfold Oper.wp
 have hr : (execOp a.eval ⟨dst, .call { callee := .value x, args := args.toArray, argTypes := tys }, ty, pos, aft, gd⟩).run P w = .ok (.enter f (vs ++ caps).toArray) w := by
  simp [execOp, resolve, ha.ev hx, Deferred.ofValue, invoke, hcall, hm]
 rw [hr]
 exact Calls.mono hc.run fun e' w' ⟨v, he, hR⟩ => by subst he; exact ⟨v, rfl, hR⟩⟩
end
end Go.Vw
