import Derived.Test.YteefdabnmfpogaaGreatDoorVwGen6
import Derived.ScopeJumps
namespace Go.Vw
open Go.RowKit Dat
theorem least {p : Nat → Prop} (h : ∃ m, p m) : ∃ m, p m ∧ ∀ k, p k → m ≤ k := by
 obtain ⟨m, hm⟩ := h
 induction m using Nat.strongRecOn with
 | _ m ih =>
  by_cases hk : ∃ k, k < m ∧ p k
  ·obtain ⟨k, hk, hp⟩ := hk; exact ih k hk hp
  ·exact ⟨m, hm, fun k hp => Nat.le_of_not_lt fun h => hk ⟨k, h, hp⟩⟩
def GL (P : Program) (l : Nat) (rest : Code) (Q : Exit → Act → World → Prop) (m : Nat) (a : Act) (w : World) : Prop :=
 ∃ (σ ρ : Type) (step : σ → Option (Out σ ρ)) (I : σ → Act → World → Prop) (Qr : ρ → Exit → Act → World → Prop) (s : σ) (r : ρ),
  (∀ s a w o, I s a w → step s = some o → rest.wp P (Exit.then noK (Exit.jump l (fun a' w' => ∃ s', o = .next s' ∧ I s' a' w') (QO 0 (fun _ _ _ => False) Qr o))) a w) ∧ iter step m s = some (.inr r) ∧ I s a w ∧ (∀ ex a w, Qr r ex a w → Q ex a w ∧ ex = .ret)
section
variable {P : Program} {N : Nat} {e : Env} {w : World} {K : Act → World → Prop} {Q : Exit → Act → World → Prop} {l : Nat} {rest c : Code}
theorem GL.pass {m : Nat} {a : Act} (h : GL P l rest Q m a w) : rest.wp P (fun ex a' w' => (ex = .goto l ∧ ∃ m', m' < m ∧ GL P l rest Q m' a' w') ∨ (ex = .ret ∧ Q .ret a' w')) a w := by
 obtain ⟨σ, ρ, step, I, Qr, s, r, hr, hm, hI, hq⟩ := h
 cases m with
 | zero => cases hm
 | succ m =>
  simp only [iter] at hm
  split at hm
  ·cases hm
  ·rename_i s' hb
   refine Code.wp_mono (fun ex a' w' q => ?_) (hr s a w _ hI hb)
   cases ex <;> simp only [Exit.then, Exit.jump, QO] at q
   case normal => exact q.elim
   case goto l' =>
    obtain ⟨rfl, s'', he, hI'⟩ := q
    cases he
    exact .inl ⟨rfl, m, Nat.lt_succ_self _, σ, ρ, step, I, Qr, s', r, hr, hm, hI', hq⟩
   all_goals rcases q with ⟨_, _, he, _⟩ | ⟨_, he, _⟩ <;> cases he
  ·cases hm
  ·rename_i r' hb
   have hrr : r' = r := by cases hm; rfl
   subst hrr
   refine Code.wp_mono (fun ex a' w' q => ?_) (hr s a w _ hI hb)
   cases ex <;> simp only [Exit.then, Exit.jump, QO] at q
   case normal => exact q.elim
   case goto l' =>
    obtain ⟨_, _, he, _⟩ := q
    cases he
   case ret =>
    rcases q with ⟨_, _, he, _⟩ | ⟨_, he, hx⟩
    ·cases he
    ·cases he; exact .inr ⟨rfl, (hq _ _ _ hx).1⟩
   all_goals
    rcases q with ⟨_, _, he, _⟩ | ⟨_, he, hx⟩
    ·cases he
    ·cases he; exact absurd (hq _ _ _ hx).2 (by simp)
theorem WC_scope (l : Nat) {rest : Code} (hf : findLabel c l = some (.seq .skip rest)) (h : WC P N c K (Exit.jump l (fun a w => ∃ m, GL P l rest Q m a w) Q) e w) : WC P N (.scope c) K Q e w := fun a ha => by
 refine wp_scope_jumps l (fun a w => ∃ m, GL P l rest Q m a w) (fun a w => by
  classical
  exact if h : ∃ m, GL P l rest Q m a w then Classical.choose (least h) else 0) hf ?_ ?_
 ·refine Code.wp_mono (fun ex a' w' q => ?_) (h a ha)
  cases ex <;> exact q
 ·intro a w hJ
  classical
  have hmin := (Classical.choose_spec (least hJ)).1
  refine wp_seq (wp_skip ?_)
  refine Code.wp_mono (fun ex a' w' q => ?_) hmin.pass
  rcases q with ⟨rfl, m', hlt, hG⟩ | ⟨rfl, hq⟩
  ·refine ⟨rfl, ⟨m', hG⟩, ?_⟩
   rw [dif_pos ⟨m', hG⟩, dif_pos hJ]
   exact Nat.lt_of_le_of_lt ((Classical.choose_spec (least (p := fun m => GL P l rest Q m a' w') ⟨m', hG⟩)).2 m' hG) hlt
  ·exact hq
theorem WC_atLabel {σ ρ : Type} {step : σ → Option (Out σ ρ)} {n : Nat} {s : σ} {r : ρ} (I : σ → Act → World → Prop) (Qr : ρ → Exit → Act → World → Prop) (hm : iter step n s = some (.inr r)) (h0 : AtK N (fun a w => I s a w) e w)
  (hround : ∀ s a w o, I s a w → step s = some o → rest.wp P (Exit.then noK (Exit.jump l (fun a' w' => ∃ s', o = .next s' ∧ I s' a' w') (QO 0 (fun _ _ _ => False) Qr o))) a w)
  (hR : ∀ ex a w, Qr r ex a w → Q ex a w ∧ ex = .ret) : WC P N (.seq (.label l) rest) K (Exit.jump l (fun a w => ∃ m, GL P l rest Q m a w) Q) e w := fun a ha => by
 have hG : GL P l rest Q n a w := ⟨σ, ρ, step, I, Qr, s, r, hround, hm, h0 a ha, hR⟩
 refine wp_seq (wp_label ?_)
 refine Code.wp_mono (fun ex a' w' q => ?_) hG.pass
 rcases q with ⟨rfl, m', _, hG⟩ | ⟨rfl, hq⟩
 ·exact ⟨rfl, m', hG⟩
 ·exact hq
theorem WC_retJ {J : Act → World → Prop} (h : ∀ a, Sat N e a → Q .ret a w) : WC P N .ret K (Exit.jump l J Q) e w := fun a ha => wp_ret (h a ha)
theorem WC_goto (h : ∀ a, Sat N e a → Q (.goto l) a w) : WC P N (.goto l) K Q e w := fun a ha => wp_goto (h a ha)
theorem gotoS {σ ρ β : Type} {X : Option (Sum σ ρ)} {f : ρ → Option β} {res : β} (h : bd X (el (fun _ => none) f) = some res) : ∃ r, X = some (.inr r) ∧ f r = some res := by
 obtain ⟨u, hu, h2⟩ := bdS h
 cases u with
 | inl s => cases h2
 | inr r => exact ⟨r, hu, h2⟩
end
end Go.Vw
