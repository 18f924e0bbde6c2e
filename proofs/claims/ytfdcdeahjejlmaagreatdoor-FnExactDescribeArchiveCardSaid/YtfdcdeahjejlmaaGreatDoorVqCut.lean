import Derived.Test.YtfdcdeahjejlmaaGreatDoorVqFun
set_option linter.unusedVariables false
namespace Go.Vw
open Go.RowKit Dat
theorem o_f {P : Program} {o : Oper} {a : Act} {w : World} {K K' K1 K2 : Act → World → Prop} {Q : Exit → Act → World → Prop} (h : ∀ a w, K a w → K' a w) (hh : o.wp P a w K (Exit.then K1 Q)) : o.wp P a w K' (Exit.then K2 Q) := by
 unfold Oper.wp at *
 generalize (execOp a.eval o).run P w = r at *
 cases r with
 | ok n w' =>
  cases n <;> simp only [Oper.upon] at hh ⊢ <;>
   first
    | exact h _ _ hh
    | exact Calls.mono hh (fun e w'' he => by cases e <;> first | exact h _ _ he | exact he)
    | exact Rows.mono hh (fun _ _ he => h _ _ he)
 | halt x w' => cases x <;> simp only [Oper.upon] at hh ⊢ <;> exact hh
theorem i_P {P : Program} {ops : Array Oper} {K K1 : Act → World → Prop} {Q : Exit → Act → World → Prop} {l2 : List Oper} (hk : ∀ a w, K1 a w → wpList P ops (Exit.then K Q) l2 a w) : ∀ (l1 : List Oper) (a : Act) (w : World), wpList P ops (Exit.then K1 Q) l1 a w → wpList P ops (Exit.then K Q) (l1 ++ l2) a w
 | [], a, w, h => hk a w h
 | o :: l1, a, w, h => by
  rw [List.cons_append]
  unfold wpList at h ⊢
  split at h
  ·rename_i hw
   rw [if_pos hw]
   rcases h with h | ⟨h1, h2⟩
   ·exact .inl (o_f (i_P hk l1) h)
   ·exact .inr ⟨h1, h2⟩
  ·rename_i hw
   rw [if_neg hw]
   exact i_P hk l1 _ _ h
section
variable {P : Program} {N : Nat} {ops : Array Oper} {K : Act → World → Prop} {Q : Exit → Act → World → Prop} {e : Env} {w : World} {l : List Oper}
theorem o_g (k : Nat) (l : List Oper) : l.take k ++ l.drop k = l := List.take_append_drop k l
theorem c_Y (d : Nat) (u : Bool) (k : Nat) (h1 : WL P N ops (fun a w' => w' = w ∧ Sat N ((d, vB u) :: e) a) Q (l.take k) e w) (h2 : WL P N ops K Q (l.drop k) ((d, vB u) :: e) w) : WL P N ops K Q l e w := fun a ha => by
 rw [← o_g k l]
 exact i_P (fun a w' ⟨hw, hs⟩ => by subst hw; exact h2 a hs) _ a w (h1 a ha)
variable {d : Nat} {u c : Bool}
def i_Q (n : Nat) (e : Env) : Bool := (e.take n).all fun p => (e.drop n).all fun q => !Nat.beq p.1 q.1
theorem k_U : ∀ {e : Env} {t : Nat}, (∀ q ∈ e, Nat.beq t q.1 = false) → q_ e t = none
 | [], _, _ => rfl
 | (k, v) :: e, t, h => by
  have h1 := h (k, v) List.mem_cons_self
  have h2 : Nat.beq k t = false := by rw [← Bool.not_eq_true, Nat.beq_eq] at *; exact fun h => h1 h.symm
  rw [q_, h2]
  exact k_U fun q hq => h q (List.mem_cons_of_mem _ hq)
theorem k_V : ∀ {e1 e2 : Env} {t : Nat}, (∀ p ∈ e1, Nat.beq p.1 t = false) → q_ (e1 ++ e2) t = q_ e2 t
 | [], _, _, _ => rfl
 | (k, v) :: e1, e2, t, h => by
  rw [List.cons_append, q_, h (k, v) List.mem_cons_self]
  exact k_V fun p hp => h p (List.mem_cons_of_mem _ hp)
theorem o_h {n : Nat} {e : Env} (h : i_Q n e = true) {t : Nat} {v : Value} (hl : q_ (e.drop n) t = some v) : q_ e t = some v := by
 have : q_ (e.take n ++ e.drop n) t = q_ (e.drop n) t := by
  refine k_V fun p hp => ?_
  cases hb : Nat.beq p.1 t with
  | false => rfl
  | true =>
   exfalso
   have hpt : p.1 = t := Nat.eq_of_beq_eq_true hb
   have h1 := List.all_eq_true.1 h p hp
   rw [List.all_eq_true] at h1
   have := k_U (e := e.drop n) (t := t) fun q hq => by
    have := h1 q hq
    rw [Bool.not_eq_true'] at this
    rw [← hpt]; exact this
   rw [this] at hl; cases hl
 rw [List.take_append_drop] at this
 rw [this]; exact hl
theorem o_i (n : Nat) {e' : Env} {a : Act} (hu : c = u) (h0 : q_ e' d = some (vB c)) (hf : i_Q n e' = true) (he : e'.drop n = e) (ha : Sat N e' a) : Sat N ((d, vB u) :: e) a := by
 subst hu; subst he
 refine ⟨ha.defers, ha.size, fun t v ht => ?_⟩
 simp only [q_] at ht
 by_cases hk : d = t
 ·subst hk
  have hb : Nat.beq d d = true := by simp
  rw [hb] at ht
  simp only [cond_true, Option.some.injEq] at ht
  subst ht
  exact ha.at_ d _ h0
 ·have hb : Nat.beq d t = false := by rw [← Bool.not_eq_true, Nat.beq_eq]; exact hk
  rw [hb] at ht
  simp only [cond_false] at ht
  exact ha.at_ t v (o_h hf ht)
theorem WLq (n : Nat) {e' : Env} (hu : some c = some u) (h0 : q_ e' d = some (vB c)) (hf : i_Q n e' = true) (he : e'.drop n = e) : WL P N ops (fun a w' => w' = w ∧ Sat N ((d, vB u) :: e) a) Q [] e' w :=
 f_f fun _ ha => ⟨rfl, o_i n (Option.some.inj hu) h0 hf he ha⟩
end
end Go.Vw
