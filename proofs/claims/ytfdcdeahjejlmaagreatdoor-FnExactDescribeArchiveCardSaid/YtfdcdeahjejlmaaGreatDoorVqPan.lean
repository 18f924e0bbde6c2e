import Derived.Test.YtfdcdeahjejlmaaGreatDoorVqFun
import Derived.Recover
import Derived.Tactics
import Derived.Tactics2
import Derived.Laws.Pointers
import Derived.Lib.Hide
set_option linter.unusedVariables false
namespace Go.Vw
open Go.RowKit Dat
def h_S (v : Value) : List PanicEntry := [{ v := v, recovered := false }]
def r_9 (P : Program) (fn : Func) (pv : Value) (R : Bool → World → Prop) (r : Bool) (ex : Exit) (a : Act) (w : World) : Prop :=
 (r = true ∧ ex = .ret ∧ a.defers = [] ∧ ∃ v, (results fn a.tmps).run P w = .ok v w ∧ R true w) ∨ (r = false ∧ ex = .panic (h_S pv) ∧ a.defers = [] ∧ R false w)
def m_Z (pv : Value) (R : Bool → World → Prop) (e : Ending) (w : World) : Prop := (∃ v, e = .returned v ∧ R true w) ∨ (e = .panicked (h_S pv) ∧ R false w)
def QP (P : Program) (fn : Func) (pv : Value) (R : Bool → World → Prop) : Exit → Act → World → Prop := fun ex a w => ∃ r, r_9 P fn pv R r ex a w
abbrev KP (P : Program) (fn : Func) (R : Bool → World → Prop) : Act → World → Prop := v_ P fn (fun _ w => R true w)
section
variable {P : Program} {N : Nat} {e : Env} {w : World} {fn : Func} {pv : Value} {R : Bool → World → Prop}
theorem r_a {f : FuncId} {c : Code} {args : List Value} (hf : P.funcs[f]? = some fn) (hb : fn.body = some c) (hN : fn.ntmps = N)
  (hle : args.length ≤ N) (h : WC P N c (KP P fn R) (QP P fn pv R) (d_W 0 args) w) : Calls P f args.toArray w (m_Z pv R) := by
 refine calls_of_wp hf hb (Code.wp_mono (fun ex a w q => ?_) (h _ ⟨rfl, ?_, ?_⟩))
 ·cases ex with
  | normal => obtain ⟨h1, v, h2, h3⟩ := q; exact ⟨h1, v, h2, .inl ⟨v, rfl, h3⟩⟩
  | ret =>
   obtain ⟨r, ⟨_, _, h1, v, h2, h3⟩ | ⟨_, he, _⟩⟩ := q
   ·exact ⟨h1, v, h2, .inl ⟨v, rfl, h3⟩⟩
   ·cases he
  | panic ch =>
   obtain ⟨r, ⟨_, he, _⟩ | ⟨_, he, h1, h2⟩⟩ := q
   ·cases he
   ·cases he; exact ⟨h1, .inr ⟨rfl, h2⟩⟩
  | _ => obtain ⟨r, ⟨_, he, _⟩ | ⟨_, he, _⟩⟩ := q <;> cases he
 ·simp [hN]; omega
 ·intro t v ht
  obtain ⟨_, h2⟩ := j_t args 0 t v ht
  have hlt := (List.getElem?_eq_some_iff.1 h2).1
  simp only [Nat.sub_zero] at h2 hlt
  rw [Array.getElem?_append_left (by simpa using hlt)]
  simpa using h2
theorem k_o {K : Act → World → Prop} {Q : Exit → Act → World → Prop} {ops : Array Oper} {rest : List Oper} {dst : Option Tmp} {ty : TypeId} {pos : String} {aft : Array Edge} {x : Operand} {T : TypeId} {u : Value}
  (hx : ev e x = some (.iface T u)) (h : ∀ a, Sat N e a → Q (.panic (h_S (.iface T u))) a w) : WL P N ops K Q (⟨dst, .panic x, ty, pos, aft, none⟩ :: rest) e w := fun a ha =>
 wpList_plain rfl fun K' hK => by
  have hr : (execOp a.eval ⟨dst, .panic x, ty, pos, aft, none⟩).run P w = .halt (.panic (.iface T u)) w := by
   simp only [execOp, ha.ev hx]
   rfl
  unfold Oper.wp
  rw [hr]
  exact h a ha
theorem r_b {σ ρ : Type} {K : Act → World → Prop} {Q : Exit → Act → World → Prop} {step : σ → Option (Out σ ρ)} {c : Code} {b n : Nat} {res : Sum σ ρ} (I : σ → Act → World → Prop) (D : σ → Act → World → Prop) (Qr : ρ → Exit → Act → World → Prop)
  {s : σ} (hm : E_ step n s = some res) (h0 : AtK N (fun a w => I s a w) e w)
  (hround : ∀ s a w o, I s a w → step s = some o → c.wp P (Exit.then (fun a' w' => ∃ s', o = .next s' ∧ I s' a' w') (QO b D Qr o)) a w)
  (hD : ∀ s a w, res = .inl s → D s a w → K a w) (hR : ∀ r ex a w, res = .inr r → Qr r ex a w → Q ex a w ∧ ∃ ch, ex = .panic ch) : WC P N (.block b (.loop c)) K Q e w :=
 e_n fun a ha => Code.wp_mono (fun ex a' w' q => by
  cases ex with
  | normal => exact (show False from q).elim
  | _ =>
   rcases q with ⟨hx, s', he, hd⟩ | ⟨r, he, hq⟩
   ·first
     | (cases hx; simp only [Exit.then, inB, if_true]; exact hD s' a' w' he hd)
     | cases hx
   ·obtain ⟨h1, ch, h2⟩ := hR r _ a' w' he hq
    first
     | (cases h2; exact h1)
     | cases h2) (l_c I D Qr hround hm (h0 a ha))
end
end Go.Vw
