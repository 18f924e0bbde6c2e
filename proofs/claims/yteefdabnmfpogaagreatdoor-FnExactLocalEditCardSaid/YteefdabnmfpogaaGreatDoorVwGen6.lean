import Derived.Test.YteefdabnmfpogaaGreatDoorVwGen5
namespace Go.Vw
open Go.RowKit Dat
section
variable {X : Nat → Prop} {P : Program} {N : Nat} {e : Env} {w : World} {dst : Option Tmp} {ty : TypeId} {pos : String} {aft : Array Edge} {gd : Option (Nat × Bool)} {x y z : Operand} {T T' E : Nat}
theorem rd_slice3X {α : Type} [Dat α] {B n c sz' : Nat} {ao : Option Addr} {l m : List α} {a b : Int} {lo : Option Operand} {hi mo : Operand} (hT : P.underlying T = some (.slice E)) (hs : ∀ w, (sizeOf E).run P w = .ok sz' w) (hsz : sz' = sz α) (hx : ev e x = some (.slice ao n c)) (h : repS w B (.slice ao n c) l)
  (hlo : evo e lo 0 a) (hhi : ev e hi = some (vI b)) (hmx : ev e mo = some (vI b)) (hm : slc l a b = some m) :
  ∃ v, Rd X P N ⟨dst, .slice T x lo (some hi) (some mo), ty, pos, aft, gd⟩ e w v ∧ ∃ ao' n' c', v = .slice ao' n' c' ∧ repS w B (.slice ao' n' c') m := by
 obtain ⟨g1, g2, g3, _⟩ := slcS hm
 obtain ⟨ao', c', k1, k2⟩ := rd_slice3 (X := X) (P := P) (N := N) (w := w) (dst := dst) (ty := ty) (pos := pos) (aft := aft) (gd := gd) hT hs hsz hx h hlo hhi hmx (Int.le_refl _) g3 hm
 exact ⟨_, k1, ao', _, c', rfl, k2⟩
end
def anyX : Nat → Prop := fun _ => True
theorem chgAny {X : Nat → Prop} {w w' : World} (h : Chg X w w') : Chg anyX w w' := ⟨h.os, h.tape, h.output, h.size, fun _ _ hn => absurd trivial hn⟩
end Go.Vw
