/- An environment-based calculus over the kit's weakest preconditions: what is known of a frame's slots is a list of pairs; the rules run one operation at a time. -/
import Derived.WalkKit
import Derived.Below
import Derived.Orders
import Derived.Still
set_option linter.unusedVariables false
namespace Go.Vw
open Go.RowKit
abbrev Env := List (Nat × Value)
def q_ : Env → Nat → Option Value
 | [], _ => none
 | (k, v) :: e, t => bif Nat.beq k t then some v else q_ e t
def ev (e : Env) : Operand → Option Value
 | .tmp t => q_ e t
 | .const v => some v
 | .global g => some (.pointer (some ⟨g, 0, none⟩))
 | .func f => some (.func (.func f) #[] #[])
structure Sat (N : Nat) (e : Env) (a : Act) : Prop where
 defers : a.defers = []
 size : a.tmps.size = N
 at_ : ∀ t v, q_ e t = some v → a.tmps[t]? = some v
theorem Sat.ev {N : Nat} {e : Env} {a : Act} (h : Sat N e a) {x : Operand} {v : Value} (hx : ev e x = some v) : a.eval x = v := by
 cases x with
 | tmp t => have := h.at_ t v hx; simp [Act.eval, Array.getD_eq_getD_getElem?, this]
 | const u => simpa [Vw.ev, Act.eval] using hx
 | global g => simpa [Vw.ev, Act.eval] using hx
 | func f => simpa [Vw.ev, Act.eval] using hx
theorem Sat.put {N : Nat} {e : Env} {a : Act} (h : Sat N e a) {d : Nat} (hd : Nat.blt d N = true) (v : Value) : Sat N ((d, v) :: e) (a.put (some d) v) := by
 have hd' : d < N := by simpa [Nat.blt_eq] using hd
 refine ⟨h.defers, by simp [Act.put, h.size], fun t u hu => ?_⟩
 simp only [q_] at hu
 by_cases hk : d = t
 ·subst hk
  have hb : Nat.beq d d = true := by simp
  rw [hb] at hu
  simp only [cond_true, Option.some.injEq] at hu
  subst hu
  simp [Act.put, h.size, hd']
 ·have hb : Nat.beq d t = false := by rw [← Bool.not_eq_true, Nat.beq_eq]; exact hk
  rw [hb] at hu
  simp only [cond_false] at hu
  simp only [Act.put, Array.getElem?_setIfInBounds_ne hk]
  exact h.at_ t u hu
def sub (e : Env) : Env → Prop
 | [] => True
 | (k, v) :: e' => q_ e k = some v ∧ sub e e'
theorem k_N {e : Env} : ∀ {e' : Env}, sub e e' → ∀ t v, q_ e' t = some v → q_ e t = some v
 | [], _, _, _, h => by simp [q_] at h
 | (k, u) :: e', hs, t, v, h => by
  simp only [q_] at h
  by_cases hk : k = t
  ·subst hk
   have hb : Nat.beq k k = true := by simp
   rw [hb] at h
   simp only [cond_true, Option.some.injEq] at h
   subst h
   exact hs.1
  ·have hb : Nat.beq k t = false := by rw [← Bool.not_eq_true, Nat.beq_eq]; exact hk
   rw [hb] at h
   exact k_N hs.2 t v h
theorem Sat.weaken {N : Nat} {e e' : Env} {a : Act} (h : Sat N e a) (hs : sub e e') : Sat N e' a :=
 ⟨h.defers, h.size, fun t v ht => h.at_ t v (k_N hs t v ht)⟩
def WC (P : Program) (N : Nat) (c : Code) (K : Act → World → Prop) (Q : Exit → Act → World → Prop) (e : Env) (w : World) : Prop :=
 ∀ a, Sat N e a → c.wp P (Exit.then K Q) a w
def KC (P : Program) (y : Code) (K : Act → World → Prop) (Q : Exit → Act → World → Prop) : Act → World → Prop :=
 fun a w => y.wp P (Exit.then K Q) a w
def inB (id : Nat) (K : Act → World → Prop) (Q : Exit → Act → World → Prop) : Exit → Act → World → Prop
 | .exit i, a, w => if i = id then K a w else Q (.exit i) a w
 | x, a, w => Q x a w
def AtK (N : Nat) (K : Act → World → Prop) (e : Env) (w : World) : Prop := ∀ a, Sat N e a → K a w
section
variable {P : Program} {N : Nat} {K : Act → World → Prop} {Q : Exit → Act → World → Prop} {e : Env} {w : World}
theorem WC.of_KC {y : Code} (h : WC P N y K Q e w) : AtK N (KC P y K Q) e w := h
theorem h_6 {x y : Code} (h : WC P N x (KC P y K Q) Q e w) : WC P N (.seq x y) K Q e w := fun a ha =>
 wp_seq (Code.wp_mono (fun ex a w q => by cases ex <;> exact q) (h a ha))
theorem a_J (h : AtK N K e w) : WC P N .skip K Q e w := fun a ha => wp_skip (h a ha)
theorem i_H (h : ∀ a, Sat N e a → Q .ret a w) : WC P N .ret K Q e w := fun a ha => wp_ret (h a ha)
theorem i_I {id : Nat} (h : ∀ a, Sat N e a → Q (.exit id) a w) : WC P N (.exit id) K Q e w := fun a ha => wp_exit (h a ha)
theorem e_n {id : Nat} {c : Code} (h : WC P N c K (inB id K Q) e w) : WC P N (.block id c) K Q e w := fun a ha =>
 wp_block (Code.wp_mono (fun ex a w q => by
  cases ex with
  | exit i => simp only [Exit.then, inB, Exit.inBlock] at *; split <;> simp_all
  | _ => exact q) (h a ha))
theorem i_J {c : Operand} {x y : Code} {b : Bool} (hc : ev e c = some (.bool b)) (ht : b = true → WC P N x K Q e w) (hf : b = false → WC P N y K Q e w) :
  WC P N (.cond c x y) K Q e w := fun a ha =>
 wp_cond_split (ha.ev hc) (fun h => ht h a ha) (fun h => hf h a ha)
theorem n_Y {c : Code} {K' : Act → World → Prop} {Q' : Exit → Act → World → Prop} (hk : ∀ a w, K' a w → K a w) (hq : ∀ ex a w, Q' ex a w → Q ex a w)
  (h : WC P N c K' Q' e w) : WC P N c K Q e w := fun a ha =>
 Code.wp_mono (fun ex a w q => by cases ex <;> first | exact hk _ _ q | exact hq _ _ _ q) (h a ha)
end
def WL (P : Program) (N : Nat) (ops : Array Oper) (K : Act → World → Prop) (Q : Exit → Act → World → Prop) (l : List Oper) (e : Env) (w : World) : Prop :=
 ∀ a, Sat N e a → wpList P ops (Exit.then K Q) l a w
structure Chg (X : Nat → Prop) (w w' : World) : Prop where
 os : w'.os = w.os
 tape : w'.tape = w.tape
 output : w'.output = w.output
 size : w.heap.size ≤ w'.heap.size
 block : ∀ k, k < w.heap.size → ¬ X k → w'.heap[k]? = w.heap[k]?
theorem Below.chg {w w' : World} (h : Below w.heap.size w w') (X : Nat → Prop) : Chg X w w' := ⟨h.os, h.tape, h.output, h.size, fun k hk _ => h.block k hk⟩
theorem Chg.below {X : Nat → Prop} {w w' : World} (h : Chg X w w') {B : Nat} (hB : B ≤ w.heap.size) (hX : ∀ k, k < B → ¬ X k) : Below B w w' := ⟨h.os, h.tape, h.output, h.size, fun k hk => h.block k (by omega) (hX k hk)⟩
theorem Chg.refl (X : Nat → Prop) (w : World) : Chg X w w := ⟨rfl, rfl, rfl, Nat.le_refl _, fun _ _ _ => rfl⟩
theorem Chg.trans {X : Nat → Prop} {a b c : World} (h : Chg X a b) (k : Chg X b c) : Chg X a c :=
 ⟨k.os.trans h.os, k.tape.trans h.tape, k.output.trans h.output, Nat.le_trans h.size k.size, fun i hi hx => (k.block i (Nat.lt_of_lt_of_le hi h.size) hx).trans (h.block i hi hx)⟩
theorem Chg.mono {X Y : Nat → Prop} {w w' : World} (h : Chg X w w') (hxy : ∀ k, k < w.heap.size → X k → Y k) : Chg Y w w' := ⟨h.os, h.tape, h.output, h.size, fun k hk hy => h.block k hk (fun hx => hy (hxy k hk hx))⟩
def noX : Nat → Prop := fun _ => False
def Rd (X : Nat → Prop) (P : Program) (N : Nat) (o : Oper) (e : Env) (w : World) (v : Value) : Prop :=
 ∀ a, Sat N e a → ∀ w', Chg X w w' → (execOp a.eval o).run P w' = .ok (.value v) w'
structure Ef (P : Program) (N : Nat) (o : Oper) (e : Env) (w : World) (K : Value → World → Prop) : Prop where
 run : ∀ a, Sat N e a → ∀ (Q : Exit → Act → World → Prop), o.wp P a w (fun a' w' => ∃ v, a' = a.put o.dst v ∧ K v w') Q
def out (o : Oper) (v : Value) (e : Env) : Env :=
 match o.dst with
 | some d => (d, v) :: e
 | none => e
def a_Y (N : Nat) (o : Oper) : Bool :=
 match o.dst with
 | some d => Nat.blt d N
 | none => true
section
variable {P : Program} {N : Nat} {ops : Array Oper} {K : Act → World → Prop} {Q : Exit → Act → World → Prop} {e : Env} {w : World} {o : Oper} {rest : List Oper}
theorem Sat.out {a : Act} (h : Sat N e a) (hf : a_Y N o = true) (v : Value) : Sat N (out o v e) (a.put o.dst v) := by
 unfold Vw.out a_Y at *
 cases hd : o.dst with
 | none => exact h
 | some d => rw [hd] at hf; exact h.put hf v
theorem f_f (h : AtK N K e w) : WL P N ops K Q [] e w := fun a ha => h a ha
theorem WL_rd {v : Value} (hg : o.guard = none) (hf : a_Y N o = true) (h : Rd noX P N o e w v) (k : WL P N ops K Q rest (out o v e) w) : WL P N ops K Q (o :: rest) e w := fun a ha =>
 wpList_plain hg fun K' hK => by
  unfold Oper.wp
  rw [h a ha w (Chg.refl _ _)]
  exact hK _ _ (k _ (ha.out hf v))
theorem WL_ef {R : Value → World → Prop} (hg : o.guard = none) (hf : a_Y N o = true) (h : Ef P N o e w R) (k : ∀ v w', R v w' → WL P N ops K Q rest (out o v e) w') : WL P N ops K Q (o :: rest) e w := fun a ha =>
 wpList_plain hg fun K' hK => Oper.wp_mono (fun a' w' ⟨v, he, hr⟩ => by subst he; exact hK _ _ (k v w' hr _ (ha.out hf v))) (h.run a ha (Exit.then _ _))
theorem i_K {j : Nat} {want b : Bool} {d : Nat} (hg : o.guard = some (j, want)) (hj : (ops[j]?).bind (·.dst) = some d) (hb : q_ e d = some (.bool b))
  (hf : a_Y N o = true) (hy : b = want → ∀ a, Sat N e a → o.wp P a w (wpList P ops (Exit.then K Q) rest) (Exit.then K Q)) (hn : b ≠ want → WL P N ops K Q rest (out o undef e) w) : WL P N ops K Q (o :: rest) e w := fun a ha => by
 have hy' : yielded ops a.tmps j = some b := by
  have := ha.at_ d _ hb
  simp [yielded, hj, this]
 unfold wpList
 by_cases hbw : b = want
 ·rw [if_pos (by simp [Region.wanted, hg, hy', hbw])]
  exact .inl (hy hbw a ha)
 ·rw [if_neg (by simp [Region.wanted, hg, hy', hbw])]
  exact hn hbw _ (ha.out hf undef)
theorem n_Z {j : Nat} {want : Bool} {d : Nat} {v : Value} (hg : o.guard = some (j, want)) (hj : (ops[j]?).bind (·.dst) = some d) (hb : q_ e d = some (.bool want))
  (hf : a_Y N o = true) (h : Rd noX P N o e w v) (k : WL P N ops K Q rest (out o v e) w) : WL P N ops K Q (o :: rest) e w :=
 i_K hg hj hb hf (fun _ a ha => by
  unfold Oper.wp
  rw [h a ha w (Chg.refl _ _)]
  exact k _ (ha.out hf v)) (fun h => absurd rfl h)
theorem o_0 {j : Nat} {want : Bool} {d : Nat} {R : Value → World → Prop} (hg : o.guard = some (j, want)) (hj : (ops[j]?).bind (·.dst) = some d) (hb : q_ e d = some (.bool want))
  (hf : a_Y N o = true) (h : Ef P N o e w R) (k : ∀ v w', R v w' → WL P N ops K Q rest (out o v e) w') : WL P N ops K Q (o :: rest) e w :=
 i_K hg hj hb hf (fun _ a ha => Oper.wp_mono (fun a' w' ⟨v, he, hr⟩ => by subst he; exact k v w' hr _ (ha.out hf v)) (h.run a ha (Exit.then _ _))) (fun h => absurd rfl h)
theorem o_1 {j : Nat} {want : Bool} {d : Nat} (hg : o.guard = some (j, want)) (hj : (ops[j]?).bind (·.dst) = some d) (hb : q_ e d = some (.bool (!want)))
  (hf : a_Y N o = true) (k : WL P N ops K Q rest (out o undef e) w) : WL P N ops K Q (o :: rest) e w :=
 i_K hg hj hb hf (fun h => by cases want <;> simp at h) (fun _ => k)
theorem o_2 {j : Nat} {want : Bool} {d : Nat} (hg : o.guard = some (j, want)) (hj : (ops[j]?).bind (·.dst) = some d) (hb : q_ e d = some undef)
  (hf : a_Y N o = true) (k : WL P N ops K Q rest (out o undef e) w) : WL P N ops K Q (o :: rest) e w := fun a ha => by
 have hy' : yielded ops a.tmps j = none := by
  have := ha.at_ d _ hb
  simp [yielded, hj, this, undef]
 unfold wpList
 rw [if_neg (by simp [Region.wanted, hg, hy'])]
 exact k _ (ha.out hf undef)
theorem h_7 {id : Nat} {l : List Oper} (h : WL P N l.toArray K Q l e w) : WC P N (.region id l.toArray false) K Q e w := fun a ha =>
 wp_region_lit (h a ha)
end
end Go.Vw
