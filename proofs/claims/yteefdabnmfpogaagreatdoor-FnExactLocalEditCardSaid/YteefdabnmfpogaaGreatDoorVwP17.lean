import Derived.Test.YteefdabnmfpogaaGreatDoorVwP16
namespace Go.Vw
open Go.RowKit Dat
section
variable {d : Desc} {b : List UInt8}
theorem readV_at (hv : valid d = true) (hb : b.length ≤ 400) {i p : Nat} (hi : i < d.rules.length) (hp : p ≤ b.length) : readV d i b p = castR (rdW d.rules b i p) := by
 unfold readV
 rw [if_pos]
 ·simp
 ·unfold okV isRule
  rw [hv, decide_eq_true (show (0 : Int) ≤ (i : Int) by omega), decide_eq_true (show (i : Int) < (d.rules.length : Int) by omega), decide_eq_true (show (0 : Int) ≤ (p : Int) by omega), decide_eq_true (show (p : Int) ≤ (b.length : Int) by omega), decide_eq_true (show (b.length : Int) ≤ 400 by omega)]
  rfl
end
section
variable {d : Desc} {b : List UInt8}
end
end Go.Vw
