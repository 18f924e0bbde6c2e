import Derived.Test.YtfdcdeahjejlmaaGreatDoorVqP6
set_option linter.unusedVariables false
namespace Go.Vw
open Go.RowKit Dat
section
variable {d : g_} {b : List UInt8}
end
end Go.Vw
set_option linter.unusedVariables false
namespace Go.Vw
open Go.RowKit Dat
section
variable {d : g_} {b : List UInt8}
theorem o_a {r : e_} {num : Int} {p : Nat} {x : List Val × Nat × Int} (h : (b_g b r num p x).2.2 ≠ 0) : (b_g b r num p x).1 = zV := by
 unfold b_g at *
 split
 ·rename_i h0
  rw [iP_ h0] at h
  split
  ·rename_i h9
   rw [iP_ h9] at h
   cases hb : b[x.2.1]? with
   | none => rfl
   | some c =>
    rw [hb] at h
    simp only at h ⊢
    split
    ·rename_i hs; rw [iP_ hs] at h; exact absurd rfl h
    ·rfl
  ·rename_i h9; rw [iN_ h9] at h; exact absurd rfl h
 ·rfl
theorem rdB_zV {rs : List e_} {r : e_} {p : Nat} {rd : Int → Nat → RR} (h : (rdB rs b r p rd).2.2 ≠ 0) : (rdB rs b r p rd).1 = zV := by
 have hby : ∀ p n, (a_T b p n).2.2 ≠ 0 → (a_T b p n).1 = zV := fun p n h => by
  unfold a_T at *
  split
  ·rfl
  ·rename_i h0; rw [iN_ h0] at h; exact absurd rfl h
 unfold rdB at *
 split
 ·rename_i h1; rw [iP_ h1] at h
  cases hd : a_p b r p with
  | none => rfl
  | some n => rw [hd] at h; exact absurd rfl h
 rename_i h1; rw [iN_ h1] at h
 split
 ·rfl
 rename_i h2; rw [iN_ h2] at h
 split
 ·rename_i h3; rw [iP_ h3] at h; exact hby _ _ h
 rename_i h3; rw [iN_ h3] at h
 split
 ·rename_i h4; rw [iP_ h4] at h
  cases hd : a_p b (Z_ rs (G_ r)) p with
  | none => rfl
  | some n => rw [hd] at h; exact hby _ _ h
 rename_i h4; rw [iN_ h4] at h
 split
 ·rename_i h5; rw [iP_ h5] at h
  cases hd : c_V b p (r.bytes.getD 0 0) with
  | none => rfl
  | some n => rw [hd] at h; exact absurd rfl h
 rename_i h5; rw [iN_ h5] at h
 cases hh : a_u rs b r p with
 | inl c => rfl
 | inr x => rw [hh] at h; exact o_a h
theorem rdW_zV {i at_ : Nat} (h : (rdW d.rules b i at_).2.2 ≠ 0) : (rdW d.rules b i at_).1 = zV := by
 rw [rdW] at *; exact rdB_zV h
def chain (rd : Int → Nat → RR) (L : Nat) : List Int → Nat → List Val → Nat → Prop
 | [], p, vs, e => vs = [] ∧ e = p
 | k :: ks, p, vs, e => p ≤ L ∧ (rd k p).2.2 = 0 ∧ ∃ ws, vs = (rd k p).1 :: ws ∧ chain rd L ks (rd k p).2.1 ws e
def okV (d : g_) (b : List UInt8) (rule at_ : Int) : Bool := (a_k d && b_N d rule) && ((decide (0 ≤ at_) && decide (at_ ≤ (b.length : Int))) && decide ((b.length : Int) ≤ 400))
def c_o (d : g_) (rule : Int) (b : List UInt8) (at_ : Int) : Val × Int × Int := if okV d b rule at_ = true then c_f (rdW d.rules b rule.toNat at_.toNat) else (zV, 0, 8)
theorem k_M {rule at_ : Int} (h : okV d b rule at_ = true) : a_k d = true ∧ b.length ≤ 400 ∧ ∃ i p : Nat, rule = i ∧ at_ = p ∧ i < d.rules.length ∧ p ≤ b.length := by
 unfold okV b_N at h
 simp only [aE_, dE_] at h
 exact ⟨h.1.1, by omega, rule.toNat, at_.toNat, by omega, by omega, by omega, by omega⟩
theorem o_b (hd : SmD d) {n : Nat} (hn : 500 ≤ n) (rule at_ : Int) : f_P n d rule b at_ = some (c_o d rule b at_) := by
 unfold f_P c_o
 rw [o_E d hd, a_R]
 by_cases h : okV d b rule at_ = true
 ·rw [iP_ h]
  obtain ⟨hv, hb, i, p, rfl, rfl, hi, hp⟩ := k_M h
  have hlen := (h_r hv).2
  have e1 : (a_k d && b_N d (i : Int)) = true := by unfold b_N; rw [hv, dT_ (by omega), dT_ (by omega)]; rfl
  rw [e1, dT_ (show (0 : Int) ≤ (p : Int) by omega), dT_ (show (p : Int) ≤ (b.length : Int) by omega), dF_ (show ¬ (400 : Int) < (b.length : Int) by omega)]
  simp only [bd_some, nT_, bF_, fF_, Bool.and_self]
  rw [p_T hv hd hb i hi n (by omega) p hp]
  rfl
 ·rw [iN_ h]
  unfold okV at h
  have e400 : decide ((400 : Int) < (b.length : Int)) = !decide ((b.length : Int) ≤ 400) := by
   by_cases hb : (b.length : Int) ≤ 400
   ·rw [dT_ hb, dF_ (by omega)]; rfl
   ·rw [dF_ hb, dT_ (by omega)]; rfl
  rw [e400]
  generalize (a_k d && b_N d rule) = a at *
  generalize (decide (0 ≤ at_) && decide (at_ ≤ (b.length : Int))) = c at *
  generalize decide ((b.length : Int) ≤ 400) = e at *
  cases a <;> cases c <;> cases e <;> first | rfl | exact absurd rfl h
theorem o_c (hd : SmD d) {n : Nat} (hn : 500 ≤ n) (rule at_ : Int) : g_b n d rule b at_ = some (c_o d rule b at_) := by
 unfold g_b c_o
 rw [o_D n (by omega) d hd]
 by_cases h : okV d b rule at_ = true
 ·rw [iP_ h]
  obtain ⟨hv, hb, i, p, rfl, rfl, hi, hp⟩ := k_M h
  have hlen := (h_r hv).2
  have e1 : (a_k d && b_N d (i : Int)) = true := by unfold b_N; rw [hv, dT_ (by omega), dT_ (by omega)]; rfl
  rw [e1, dF_ (show ¬ (p : Int) < 0 by omega), dF_ (show ¬ (b.length : Int) < (p : Int) by omega), dF_ (show ¬ (400 : Int) < (b.length : Int) by omega)]
  simp only [bd_some, nT_, bF_, fF_]
  obtain ⟨nx, hrd⟩ := q_0 hv hd hb i hi n (by omega) p hp
  rw [hrd]
  show _ = some (c_f (rdW d.rules b i p))
  have hz := rdW_zV (d := d) (b := b) (i := i) (at_ := p)
  generalize rdW d.rules b i p = x at *
  unfold b_T c_f
  by_cases h0 : x.2.2 = 0
  ·rw [iP_ h0, h0]; rfl
  ·rw [iN_ h0, hz h0]; rfl
 ·rw [iN_ h]
  unfold okV at h
  have e400 : decide ((400 : Int) < (b.length : Int)) = !decide ((b.length : Int) ≤ 400) := by
   by_cases hb : (b.length : Int) ≤ 400
   ·rw [dT_ hb, dF_ (by omega)]; rfl
   ·rw [dF_ hb, dT_ (by omega)]; rfl
  have e0 : decide (at_ < 0) = !decide (0 ≤ at_) := by
   by_cases hb : 0 ≤ at_
   ·rw [dT_ hb, dF_ (by omega)]; rfl
   ·rw [dF_ hb, dT_ (by omega)]; rfl
  have e1 : decide ((b.length : Int) < at_) = !decide (at_ ≤ (b.length : Int)) := by
   by_cases hb : at_ ≤ (b.length : Int)
   ·rw [dT_ hb, dF_ (by omega)]; rfl
   ·rw [dF_ hb, dT_ (by omega)]; rfl
  rw [e400, e0, e1]
  generalize (a_k d && b_N d rule) = a at *
  generalize decide (0 ≤ at_) = c at *
  generalize decide (at_ ≤ (b.length : Int)) = c' at *
  generalize decide ((b.length : Int) ≤ 400) = e at *
  cases a <;> cases c <;> cases c' <;> cases e <;> first | rfl | exact absurd rfl h
def c_p (d : g_) : Int := (d.rules.length : Int) - 1
theorem o_d (hd : SmD d) : f_W d = some (c_p d) := by
 have := hd.rules; have := MXv
 unfold f_W c_p; rw [a_g (by omega) (by omega)]
theorem o_e (hd : SmD d) : f_G d = some (c_p d) := by
 have := hd.rules; have := MXv
 unfold f_G c_p; rw [a_g (by omega) (by omega)]
def f_l (d : g_) (b : List UInt8) : Val × Int × Int := if (c_o d (c_p d) b 0).2.2 = 0 ∧ (c_o d (c_p d) b 0).2.1 < (b.length : Int) then (zV, (c_o d (c_p d) b 0).2.1, 7) else c_o d (c_p d) b 0
theorem k_N (v : Val) (e c : Int) (len : Int) : bd (α := Bool) (if (c == 0) = true then some (decide (e < len)) else some false) (fun x442 => if x442 = true then some ((⟨0, ([] : List UInt8), ([] : List Val)⟩ : Val), e, 7) else some ((⟨v.number, v.bytes, v.items⟩ : Val), e, c)) = some (if c = 0 ∧ e < len then (zV, e, 7) else (v, e, c)) := by
 rw [m_d]
 by_cases h0 : c = 0
 ·subst h0
  by_cases h1 : e < len
  ·rw [dT_ h1, iP_ (show (0 : Int) = 0 ∧ e < len from ⟨rfl, h1⟩)]; rfl
  ·rw [dF_ h1, iN_ (show ¬ ((0 : Int) = 0 ∧ e < len) from fun h => h1 h.2)]; rfl
 ·rw [show (c == 0) = false by simpa using h0, iN_ (show ¬ (c = 0 ∧ e < len) from fun h => h0 h.1)]; rfl
theorem o_f (hd : SmD d) {n : Nat} (hn : 500 ≤ n) : g_c n d b = some (f_l d b) := by
 unfold g_c f_l
 rw [o_d hd, bd_some, o_c hd hn]
 generalize c_o d (c_p d) b 0 = x
 exact k_N x.1 x.2.1 x.2.2 _
theorem o_g (hd : SmD d) {n : Nat} (hn : 500 ≤ n) : f_Q n d b = some (f_l d b) := by
 unfold f_Q f_l
 rw [o_e hd, bd_some, o_b hd hn]
 generalize c_o d (c_p d) b 0 = x
 exact k_N x.1 x.2.1 x.2.2 _
end
end Go.Vw
set_option linter.unusedVariables false
namespace Go.Vw
open Go.RowKit Dat
section
variable {d : g_} {b : List UInt8}
end
end Go.Vw
set_option linter.unusedVariables false
namespace Go.Vw
open Go.RowKit Dat
section
variable {d : g_} {b : List UInt8}
def okF (d : g_) (b : List UInt8) : Bool := (f_l d b).2.2 == 0
theorem o_h (hd : SmD d) {n : Nat} (hn : 500 ≤ n) : f_R n d b = some (okF d b) := by
 unfold f_R okF
 rw [o_g hd hn]; rfl
end
end Go.Vw
