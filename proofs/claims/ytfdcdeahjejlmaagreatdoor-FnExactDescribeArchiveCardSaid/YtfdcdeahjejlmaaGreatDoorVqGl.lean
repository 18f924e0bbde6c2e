import Derived.Test.YtfdcdeahjejlmaaGreatDoorVqData
import Derived.Lib.LaidTab
import Derived.Lib.ItoaLen
import Derived.Sort.Grow
set_option linter.unusedVariables false
namespace Go.Vw
open Go.RowKit Dat
structure GlW (NG : Nat) (D : World → Prop) (w : World) (B : Zone) : Prop where
 le : bl NG ≤ B
 nw : NG ≤ w.heap.size
 at_ : ∃ u, D u ∧ ∀ k, k < NG → w.heap[k]? = u.heap[k]?
section
variable {NG : Nat} {D : World → Prop} {w w' : World} {B : Zone}
theorem GlW.mk0 (h : D w) (hB : bl NG ≤ B) (hw : NG ≤ w.heap.size) : GlW NG D w B := ⟨hB, hw, w, h, fun _ _ => rfl⟩
theorem GlW.ext (h : GlW NG D w B) (hb : Below w.heap.size w w') : GlW NG D w' B := by
 obtain ⟨u, hu, he⟩ := h.at_
 exact ⟨h.le, Nat.le_trans h.nw hb.size, u, hu, fun k hk => (hb.block k (Nat.lt_of_lt_of_le hk h.nw)).trans (he k hk)⟩
theorem GlW.chg {X : Nat → Prop} (h : GlW NG D w B) (hc : Chg X w w') (hx : ∀ k, B k → ¬ X k) : GlW NG D w' B := by
 obtain ⟨u, hu, he⟩ := h.at_
 exact ⟨h.le, Nat.le_trans h.nw hc.size, u, hu, fun k hk => (hc.block k (Nat.lt_of_lt_of_le hk h.nw) (hx k (h.le k hk))).trans (he k hk)⟩
theorem GlW.mono {B' : Zone} (h : GlW NG D w B) (hb : B ≤ B') : GlW NG D w B' := ⟨zt h.le hb, h.nw, h.at_⟩
theorem GlW.cell (h : GlW NG D w B) {a : Addr} {v : Value} (hD : ∀ u, D u → u.cell? a = some v) (ha : a.block < NG) : w.cell? a = some v := by
 obtain ⟨u, hu, he⟩ := h.at_
 rw [World.cell?_of_block (w := u) (he _ ha)]; exact hD u hu
theorem GlW.tab {P : Program} (h : GlW NG D w B) {name : String} {k : IntKind} {zs : List Int} {g : Nat} (hD : ∀ u, D u → Lib.TabIs P u name k zs) (hg : P.globalNamed name = some g) (ha : g < NG) : Lib.TabIs P w name k zs := by
 obtain ⟨u, hu, he⟩ := h.at_
 have := hD u hu
 unfold Lib.TabIs World.var? at *
 rw [hg] at *
 simp only [Option.bind_some] at *
 rw [he g ha]; exact this
end
theorem o_Y (w : World) (os : Array Obj) (k : Nat) : Below w.heap.size w (Sort.grow (w.drewN k) os) :=
 ⟨rfl, rfl, rfl, by simp [Sort.grow, World.drewN], fun j hj => by
  simp only [Sort.grow, World.drewN]
  rw [Array.getElem?_append_left hj]⟩
theorem o_Z {P : Program} {f : FuncId} {args : Array Value} {w : World} {v : Value} (h : Calls P f args w fun e w' => e = .returned v ∧ ∃ k os, w' = Sort.grow (w.drewN k) os) :
  j_ P f args.toList w (fun r w' => v = r ∧ Below w.heap.size w w') :=
 ⟨by
  have : args.toList.toArray = args := by simp
  rw [this]
  exact h.mono fun e w' ⟨he, k, os, hw⟩ => ⟨_, he, rfl, hw ▸ o_Y _ _ _⟩⟩
theorem as_chg {w : World} {g : Nat} {u v : Value} {o1 o2 o3 o4 : Obj} (_h : Blk w g [u]) : Chg (· = g) w (((((w.alloc o1).alloc o2).alloc o3).alloc o4).setCell ⟨g, 0, none⟩ v) := by
 exact Chg.comp (X := (· = g)) (Y := (· = g)) (Vw.Below.chg (bup (bup (bup (a_B w o1) (a_B _ o2)) (a_B _ o3)) (a_B _ o4)) _) (show Chg (· = g) _ _ from l_d _ ⟨g, 0, none⟩ _) (fun _ _ h => h)
theorem as_blk {w : World} {g : Nat} {u v : Value} {o1 o2 o3 o4 : Obj} (h : Blk w g [u]) : Blk (((((w.alloc o1).alloc o2).alloc o3).alloc o4).setCell ⟨g, 0, none⟩ v) g [v] := by
 have h1 := (((h.ext (a_B w o1)).ext (a_B _ o2)).ext (a_B _ o3)).ext (a_B _ o4)
 simpa using h1.set 0 v
def j_q (x : Int) : Option Str := some ⟨Lib.itoa x⟩
end Go.Vw
