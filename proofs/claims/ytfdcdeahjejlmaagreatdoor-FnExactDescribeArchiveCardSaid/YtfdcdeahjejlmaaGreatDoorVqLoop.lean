import Derived.Test.YtfdcdeahjejlmaaGreatDoorVqEf
import Derived.Deep.LoopGhost
set_option linter.unusedVariables false
namespace Go.Vw
open Go.RowKit Dat
def d_W : Nat → List Value → Env
 | _, [] => []
 | k, v :: l => (k, v) :: d_W (k + 1) l
theorem j_t : ∀ (l : List Value) (k t : Nat) (v : Value), q_ (d_W k l) t = some v → k ≤ t ∧ l[t - k]? = some v
 | [], k, t, v, h => by simp [d_W, q_] at h
 | u :: l, k, t, v, h => by
  simp only [d_W, q_] at h
  by_cases hk : k = t
  ·subst hk
   have hb : Nat.beq k k = true := by simp
   rw [hb] at h
   simp only [cond_true, Option.some.injEq] at h
   subst h
   simp
  ·have hb : Nat.beq k t = false := by rw [← Bool.not_eq_true, Nat.beq_eq]; exact hk
   rw [hb] at h
   simp only [cond_false] at h
   obtain ⟨h1, h2⟩ := j_t l (k + 1) t v h
   refine ⟨by omega, ?_⟩
   have : t - k = (t - (k + 1)) + 1 := by omega
   rw [this, List.getElem?_cons_succ]
   exact h2
def v_ (P : Program) (fn : Func) (R : Value → World → Prop) (a : Act) (w : World) : Prop :=
 a.defers = [] ∧ ∃ v, (results fn a.tmps).run P w = .ok v w ∧ R v w
def QR (P : Program) (fn : Func) (R : Value → World → Prop) : Exit → Act → World → Prop
 | .ret, a, w => v_ P fn R a w
 | _, _, _ => False
theorem p_a {P : Program} {f : FuncId} {fn : Func} {c : Code} {N : Nat} {args : List Value} {w : World} {R : Value → World → Prop} (hf : P.funcs[f]? = some fn) (hb : fn.body = some c) (hN : fn.ntmps = N)
  (hle : args.length ≤ N) (h : WC P N c (v_ P fn R) (QR P fn R) (d_W 0 args) w) : j_ P f args w R := by
 refine ⟨calls_of_wp hf hb (Code.wp_mono (fun ex a w q => ?_) (h _ ⟨rfl, ?_, ?_⟩))⟩
 ·cases ex with
  | normal => obtain ⟨h1, v, h2, h3⟩ := q; exact ⟨h1, v, h2, v, rfl, h3⟩
  | ret => obtain ⟨h1, v, h2, h3⟩ := q; exact ⟨h1, v, h2, v, rfl, h3⟩
  | _ => exact (show False from q).elim
 ·simp [hN]; omega
 ·intro t v ht
  obtain ⟨_, h2⟩ := j_t args 0 t v ht
  have hlt := (List.getElem?_eq_some_iff.1 h2).1
  simp only [Nat.sub_zero] at h2 hlt
  rw [Array.getElem?_append_left (by simpa using hlt)]
  simpa using h2
def resA (tmps : Array Value) : ResultVar → Sem Value
 | .tmp t => pure (tmps.getD t undef)
 | .cell a t => do loadVar t (← asAddr (tmps.getD a undef))
theorem h_h (fn : Func) (tmps : Array Value) : results fn tmps = (do
 let vs ← fn.results.mapM (resA tmps)
 pure (if h : vs.size = 1 then vs[0] else .tuple vs)) := rfl
def d_a (P : Program) (e : Env) (w : World) : ResultVar → Value → Prop
 | .tmp t, v => q_ e t = some v
 | .cell a T, v => ∃ p, q_ e a = some (.pointer (some p)) ∧ (loadVar T p).run P w = .ok v w
section
variable {P : Program} {N : Nat} {e : Env} {w : World} {fn : Func} {R : Value → World → Prop}
theorem d_a.run {r : ResultVar} {v : Value} {a : Act} (ha : Sat N e a) (h : d_a P e w r v) : (resA a.tmps r).run P w = .ok v w := by
 cases r with
 | tmp t => simp [resA, Array.getD_eq_getD_getElem?, ha.at_ t v h]
 | cell b T =>
  obtain ⟨p, hp, hl⟩ := h
  simp [resA, Array.getD_eq_getD_getElem?, ha.at_ b _ hp, asAddr, hl]
theorem u_ {a T g n : Nat} {cs : List Value} (hT : ∀ w, (isAgg T).run P w = .ok true w) (hs : ∀ w, (sizeOf T).run P w = .ok n w) (hp : q_ e a = some (.pointer (some ⟨g, 0, none⟩))) (hB : Blk w g cs) (hl : cs.length = n) : d_a P e w (.cell a T) (.agg cs.toArray) := by
 refine ⟨_, hp, ?_⟩
 have hc : ∀ j v, cs[j]? = some v → w.cell? ((⟨g, 0, none⟩ : Addr).add j) = some v := fun j v hv => by
  rw [Addr.add_lit, Nat.zero_add, hB.cell]; exact hv
 have hr := run_loadCells_list (P := P) (w := w) ⟨g, 0, none⟩ cs hc
 subst hl
 simp [loadVar, hT, hs, hr]
theorem ret0 (hr : fn.results = #[]) (hR : R (.tuple #[]) w) : ∀ a, Sat N e a → v_ P fn R a w := fun a ha =>
 ⟨ha.defers, _, by rw [h_h, hr]; simp, hR⟩
theorem d_ {r1 : ResultVar} {v1 : Value} (hr : fn.results = #[r1]) (h1 : d_a P e w r1 v1) (hR : R v1 w) : ∀ a, Sat N e a → v_ P fn R a w := fun a ha =>
 ⟨ha.defers, v1, by rw [h_h, hr]; simp [h1.run ha], hR⟩
theorem b_e {r1 r2 : ResultVar} {v1 v2 : Value} (hr : fn.results = #[r1, r2]) (h1 : d_a P e w r1 v1) (h2 : d_a P e w r2 v2) (hR : R (.tuple #[v1, v2]) w) : ∀ a, Sat N e a → v_ P fn R a w := fun a ha =>
 ⟨ha.defers, _, by rw [h_h, hr]; simp [h1.run ha, h2.run ha], hR⟩
theorem s_ {r1 r2 r3 : ResultVar} {v1 v2 v3 : Value} (hr : fn.results = #[r1, r2, r3]) (h1 : d_a P e w r1 v1) (h2 : d_a P e w r2 v2) (h3 : d_a P e w r3 v3) (hR : R (.tuple #[v1, v2, v3]) w) : ∀ a, Sat N e a → v_ P fn R a w := fun a ha =>
 ⟨ha.defers, _, by rw [h_h, hr]; simp [h1.run ha, h2.run ha, h3.run ha], hR⟩
theorem j_u {c : Code} {K : Act → World → Prop} {Q : Exit → Act → World → Prop} {a : Act} (h : WC P N c K Q e w) (ha : Sat N e a) : c.wp P (Exit.then K Q) a w := h a ha
end
inductive Out (σ ρ : Type) where
 | next (s : σ)
 | brk (s : σ)
 | ret (r : ρ)
def w_ {σ ρ : Type} (body : Nat → σ → Option (Out σ ρ)) : Nat → Nat → σ → Option (Sum σ ρ)
 | 0, _, s => some (.inl s)
 | n + 1, k, s => match body k s with
  | none => none
  | some (.next s') => w_ body n (k + 1) s'
  | some (.brk s') => some (.inl s')
  | some (.ret r) => some (.inr r)
def E_ {σ ρ : Type} (step : σ → Option (Out σ ρ)) : Nat → σ → Option (Sum σ ρ)
 | 0, _ => none
 | n + 1, s => match step s with
  | none => none
  | some (.next s') => E_ step n s'
  | some (.brk s') => some (.inl s')
  | some (.ret r) => some (.inr r)
def QL {σ ρ : Type} (b : Nat) (D : σ → Act → World → Prop) (Qr : ρ → Exit → Act → World → Prop) (res : Sum σ ρ) : Exit → Act → World → Prop := fun ex a w =>
 (ex = .exit b ∧ ∃ s, res = .inl s ∧ D s a w) ∨ ∃ r, res = .inr r ∧ Qr r ex a w
def QO {σ ρ : Type} (b : Nat) (D : σ → Act → World → Prop) (Qr : ρ → Exit → Act → World → Prop) (o : Out σ ρ) : Exit → Act → World → Prop := fun ex a w =>
 (ex = .exit b ∧ ∃ s, o = .brk s ∧ D s a w) ∨ ∃ r, o = .ret r ∧ Qr r ex a w
def noK : Act → World → Prop := fun _ _ => False
section
variable {P : Program}
theorem p_b {σ ρ : Type} {body : Nat → σ → Option (Out σ ρ)} {c : Code} {b n : Nat} {res : Sum σ ρ} (I : Nat → σ → Act → World → Prop) (D : σ → Act → World → Prop) (Qr : ρ → Exit → Act → World → Prop)
  (hround : ∀ k s a w o, k < n → I k s a w → body k s = some o → c.wp P (Exit.then (fun a' w' => ∃ s', o = .next s' ∧ I (k + 1) s' a' w') (QO b D Qr o)) a w)
  (hlast : ∀ s a w, I n s a w → c.wp P (Exit.then noK (fun ex a' w' => ex = .exit b ∧ D s a' w')) a w)
  {s : σ} {a : Act} {w : World} (hm : w_ body n 0 s = some res) (h0 : I 0 s a w) : (Code.loop c).wp P (Exit.then noK (QL b D Qr res)) a w := by
 refine wp_loop_ghost (fun m a w => ∃ k s, k + m = n ∧ w_ body m k s = some res ∧ I k s a w) n ⟨0, s, by omega, hm, h0⟩ ?_
 clear hm h0
 rintro m a w ⟨k, s, hk, hm, hI⟩
 cases m with
 | zero =>
  obtain rfl : k = n := by omega
  obtain rfl : Sum.inl s = res := Option.some.inj hm
  refine Code.wp_mono (fun ex a' w' q => ?_) (hlast s a w hI)
  cases ex with
  | normal => exact (show False from q).elim
  | _ => exact .inl ⟨q.1, s, rfl, q.2⟩
 | succ m =>
  simp only [w_] at hm
  split at hm
  ·cases hm
  ·rename_i s' hb
   refine Code.wp_mono (fun ex a' w' q => ?_) (hround k s a w _ (by omega) hI hb)
   cases ex <;> simp only [Exit.then, QO] at q ⊢ <;> first
    | (obtain ⟨s'', he, hI'⟩ := q; cases he; exact ⟨m, Nat.lt_succ_self _, k + 1, s', by omega, hm, hI'⟩)
    | (rcases q with ⟨_, _, he, _⟩ | ⟨_, he, _⟩ <;> cases he)
  ·rename_i s' hb
   simp only [Option.some.injEq] at hm
   subst hm
   refine Code.wp_mono (fun ex a' w' q => ?_) (hround k s a w _ (by omega) hI hb)
   cases ex <;> simp only [Exit.then, QO] at q ⊢ <;> first
    | (obtain ⟨_, he, _⟩ := q; cases he)
    | (rcases q with ⟨hx, _, he, hd⟩ | ⟨_, he, _⟩ <;> cases he; exact .inl ⟨hx, _, rfl, hd⟩)
  ·rename_i r hb
   simp only [Option.some.injEq] at hm
   subst hm
   refine Code.wp_mono (fun ex a' w' q => ?_) (hround k s a w _ (by omega) hI hb)
   cases ex <;> simp only [Exit.then, QO] at q ⊢ <;> first
    | (obtain ⟨_, he, _⟩ := q; cases he)
    | (rcases q with ⟨_, _, he, _⟩ | ⟨_, he, hq⟩ <;> cases he; exact .inr ⟨_, rfl, hq⟩)
theorem l_c {σ ρ : Type} {step : σ → Option (Out σ ρ)} {c : Code} {b n : Nat} {res : Sum σ ρ} (I : σ → Act → World → Prop) (D : σ → Act → World → Prop) (Qr : ρ → Exit → Act → World → Prop)
  (hround : ∀ s a w o, I s a w → step s = some o → c.wp P (Exit.then (fun a' w' => ∃ s', o = .next s' ∧ I s' a' w') (QO b D Qr o)) a w)
  {s : σ} {a : Act} {w : World} (hm : E_ step n s = some res) (h0 : I s a w) : (Code.loop c).wp P (Exit.then noK (QL b D Qr res)) a w := by
 refine wp_loop_ghost (fun m a w => ∃ s, E_ step m s = some res ∧ I s a w) n ⟨s, hm, h0⟩ ?_
 clear hm h0
 rintro m a w ⟨s, hm, hI⟩
 cases m with
 | zero => cases hm
 | succ m =>
  simp only [E_] at hm
  split at hm
  ·cases hm
  ·rename_i s' hb
   refine Code.wp_mono (fun ex a' w' q => ?_) (hround s a w _ hI hb)
   cases ex <;> simp only [Exit.then, QO] at q ⊢ <;> first
    | (obtain ⟨s'', he, hI'⟩ := q; cases he; exact ⟨m, Nat.lt_succ_self _, s', hm, hI'⟩)
    | (rcases q with ⟨_, _, he, _⟩ | ⟨_, he, _⟩ <;> cases he)
  ·rename_i s' hb
   simp only [Option.some.injEq] at hm
   subst hm
   refine Code.wp_mono (fun ex a' w' q => ?_) (hround s a w _ hI hb)
   cases ex <;> simp only [Exit.then, QO] at q ⊢ <;> first
    | (obtain ⟨_, he, _⟩ := q; cases he)
    | (rcases q with ⟨hx, _, he, hd⟩ | ⟨_, he, _⟩ <;> cases he; exact .inl ⟨hx, _, rfl, hd⟩)
  ·rename_i r hb
   simp only [Option.some.injEq] at hm
   subst hm
   refine Code.wp_mono (fun ex a' w' q => ?_) (hround s a w _ hI hb)
   cases ex <;> simp only [Exit.then, QO] at q ⊢ <;> first
    | (obtain ⟨_, he, _⟩ := q; cases he)
    | (rcases q with ⟨_, _, he, _⟩ | ⟨_, he, hq⟩ <;> cases he; exact .inr ⟨_, rfl, hq⟩)
theorem j_v {σ ρ : Type} {N : Nat} {e : Env} {w : World} {K : Act → World → Prop} {Q : Exit → Act → World → Prop} {body : Nat → σ → Option (Out σ ρ)} {c : Code} {b n : Nat} {res : Sum σ ρ} (I : Nat → σ → Act → World → Prop) (D : σ → Act → World → Prop) (Qr : ρ → Exit → Act → World → Prop)
  {s : σ} (hm : w_ body n 0 s = some res) (h0 : AtK N (fun a w => I 0 s a w) e w)
  (hround : ∀ k s a w o, k < n → I k s a w → body k s = some o → c.wp P (Exit.then (fun a' w' => ∃ s', o = .next s' ∧ I (k + 1) s' a' w') (QO b D Qr o)) a w)
  (hlast : ∀ s a w, I n s a w → c.wp P (Exit.then noK (fun ex a' w' => ex = .exit b ∧ D s a' w')) a w)
  (hD : ∀ s a w, res = .inl s → D s a w → K a w) (hR : ∀ r ex a w, res = .inr r → Qr r ex a w → Q ex a w ∧ ex = .ret) : WC P N (.block b (.loop c)) K Q e w :=
 e_n fun a ha => Code.wp_mono (fun ex a' w' q => by
  cases ex with
  | normal => exact (show False from q).elim
  | _ =>
   rcases q with ⟨hx, s', he, hd⟩ | ⟨r, he, hq⟩
   ·first
     | (cases hx; simp only [Exit.then, inB, if_true]; exact hD s' a' w' he hd)
     | cases hx
   ·obtain ⟨h1, h2⟩ := hR r _ a' w' he hq
    first
     | (cases h2; exact h1)
     | cases h2) (p_b I D Qr hround hlast hm (h0 a ha))
theorem a_L {σ ρ : Type} {N : Nat} {e : Env} {w : World} {K : Act → World → Prop} {Q : Exit → Act → World → Prop} {step : σ → Option (Out σ ρ)} {c : Code} {b n : Nat} {res : Sum σ ρ} (I : σ → Act → World → Prop) (D : σ → Act → World → Prop) (Qr : ρ → Exit → Act → World → Prop)
  {s : σ} (hm : E_ step n s = some res) (h0 : AtK N (fun a w => I s a w) e w)
  (hround : ∀ s a w o, I s a w → step s = some o → c.wp P (Exit.then (fun a' w' => ∃ s', o = .next s' ∧ I s' a' w') (QO b D Qr o)) a w)
  (hD : ∀ s a w, res = .inl s → D s a w → K a w) (hR : ∀ r ex a w, res = .inr r → Qr r ex a w → Q ex a w ∧ ex = .ret) : WC P N (.block b (.loop c)) K Q e w :=
 e_n fun a ha => Code.wp_mono (fun ex a' w' q => by
  cases ex with
  | normal => exact (show False from q).elim
  | _ =>
   rcases q with ⟨hx, s', he, hd⟩ | ⟨r, he, hq⟩
   ·first
     | (cases hx; simp only [Exit.then, inB, if_true]; exact hD s' a' w' he hd)
     | cases hx
   ·obtain ⟨h1, h2⟩ := hR r _ a' w' he hq
    first
     | (cases h2; exact h1)
     | cases h2) (l_c I D Qr hround hm (h0 a ha))
end
end Go.Vw
