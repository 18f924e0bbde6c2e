import Derived.Test.YtfdcdeahjejlmaaGreatDoorVqP6
set_option linter.unusedVariables false
namespace Go.Vw
open Go.RowKit Dat
section
variable {d : g_} {b : List UInt8}
end
end Go.Vw
set_option linter.unusedVariables false
namespace Go.Vw
open Go.RowKit Dat
section
variable {d : g_} {b : List UInt8}
theorem p_o {r : e_} {num : Int} {p : Nat} {x : List Val × Nat × Int} (h : (b_l b r num p x).2.2 ≠ 0) : (b_l b r num p x).1 = zV := by
 unfold b_l at *
 split
 ·rename_i h0
  rw [iP_ h0] at h
  split
  ·rename_i h9
   rw [iP_ h9] at h
   cases hb : b[x.2.1]? with
   | none => rfl
   | some c =>
    rw [hb] at h
    simp only at h ⊢
    split
    ·rename_i hs; rw [iP_ hs] at h; exact absurd rfl h
    ·rfl
  ·rename_i h9; rw [iN_ h9] at h; exact absurd rfl h
 ·rfl
theorem rdB_zV {rs : List e_} {r : e_} {p : Nat} {rd : Int → Nat → RR} (h : (rdB rs b r p rd).2.2 ≠ 0) : (rdB rs b r p rd).1 = zV := by
 have hby : ∀ p n, (a_X b p n).2.2 ≠ 0 → (a_X b p n).1 = zV := fun p n h => by
  unfold a_X at *
  split
  ·rfl
  ·rename_i h0; rw [iN_ h0] at h; exact absurd rfl h
 unfold rdB at *
 split
 ·rename_i h1; rw [iP_ h1] at h
  cases hd : a_r b r p with
  | none => rfl
  | some n => rw [hd] at h; exact absurd rfl h
 rename_i h1; rw [iN_ h1] at h
 split
 ·rfl
 rename_i h2; rw [iN_ h2] at h
 split
 ·rename_i h3; rw [iP_ h3] at h; exact hby _ _ h
 rename_i h3; rw [iN_ h3] at h
 split
 ·rename_i h4; rw [iP_ h4] at h
  cases hd : a_r b (Z_ rs (I_ r)) p with
  | none => rfl
  | some n => rw [hd] at h; exact hby _ _ h
 rename_i h4; rw [iN_ h4] at h
 split
 ·rename_i h5; rw [iP_ h5] at h
  cases hd : d_e b p (r.bytes.getD 0 0) with
  | none => rfl
  | some n => rw [hd] at h; exact absurd rfl h
 rename_i h5; rw [iN_ h5] at h
 cases hh : a_v rs b r p with
 | inl c => rfl
 | inr x => rw [hh] at h; exact p_o h
theorem rdW_zV {i at_ : Nat} (h : (rdW d.rules b i at_).2.2 ≠ 0) : (rdW d.rules b i at_).1 = zV := by
 rw [rdW] at *; exact rdB_zV h
def chain (rd : Int → Nat → RR) (L : Nat) : List Int → Nat → List Val → Nat → Prop
 | [], p, vs, e => vs = [] ∧ e = p
 | k :: ks, p, vs, e => p ≤ L ∧ (rd k p).2.2 = 0 ∧ ∃ ws, vs = (rd k p).1 :: ws ∧ chain rd L ks (rd k p).2.1 ws e
def okV (d : g_) (b : List UInt8) (rule at_ : Int) : Bool := (a_m d && b_V d rule) && ((decide (0 ≤ at_) && decide (at_ ≤ (b.length : Int))) && decide ((b.length : Int) ≤ 400))
def c_G (d : g_) (rule : Int) (b : List UInt8) (at_ : Int) : Val × Int × Int := if okV d b rule at_ = true then c_m (rdW d.rules b rule.toNat at_.toNat) else (zV, 0, 8)
theorem l_j {rule at_ : Int} (h : okV d b rule at_ = true) : a_m d = true ∧ b.length ≤ 400 ∧ ∃ i p : Nat, rule = i ∧ at_ = p ∧ i < d.rules.length ∧ p ≤ b.length := by
 unfold okV b_V at h
 simp only [aE_, dE_] at h
 exact ⟨h.1.1, by omega, rule.toNat, at_.toNat, by omega, by omega, by omega, by omega⟩
theorem p_p (hd : SmD d) {n : Nat} (hn : 500 ≤ n) (rule at_ : Int) : g_6 n d rule b at_ = some (c_G d rule b at_) := by
 unfold g_6 c_G
 rw [p_T d hd, a_V]
 by_cases h : okV d b rule at_ = true
 ·rw [iP_ h]
  obtain ⟨hv, hb, i, p, rfl, rfl, hi, hp⟩ := l_j h
  have hlen := (h_L hv).2
  have e1 : (a_m d && b_V d (i : Int)) = true := by unfold b_V; rw [hv, dT_ (by omega), dT_ (by omega)]; rfl
  rw [e1, dT_ (show (0 : Int) ≤ (p : Int) by omega), dT_ (show (p : Int) ≤ (b.length : Int) by omega), dF_ (show ¬ (400 : Int) < (b.length : Int) by omega)]
  simp only [bd_some, nT_, bF_, fF_, Bool.and_self]
  rw [r_1 hv hd hb i hi n (by omega) p hp]
  rfl
 ·rw [iN_ h]
  unfold okV at h
  have e400 : decide ((400 : Int) < (b.length : Int)) = !decide ((b.length : Int) ≤ 400) := by
   by_cases hb : (b.length : Int) ≤ 400
   ·rw [dT_ hb, dF_ (by omega)]; rfl
   ·rw [dF_ hb, dT_ (by omega)]; rfl
  rw [e400]
  generalize (a_m d && b_V d rule) = a at *
  generalize (decide (0 ≤ at_) && decide (at_ ≤ (b.length : Int))) = c at *
  generalize decide ((b.length : Int) ≤ 400) = e at *
  cases a <;> cases c <;> cases e <;> first | rfl | exact absurd rfl h
theorem p_q (hd : SmD d) {n : Nat} (hn : 500 ≤ n) (rule at_ : Int) : g_p n d rule b at_ = some (c_G d rule b at_) := by
 unfold g_p c_G
 rw [p_S n (by omega) d hd]
 by_cases h : okV d b rule at_ = true
 ·rw [iP_ h]
  obtain ⟨hv, hb, i, p, rfl, rfl, hi, hp⟩ := l_j h
  have hlen := (h_L hv).2
  have e1 : (a_m d && b_V d (i : Int)) = true := by unfold b_V; rw [hv, dT_ (by omega), dT_ (by omega)]; rfl
  rw [e1, dF_ (show ¬ (p : Int) < 0 by omega), dF_ (show ¬ (b.length : Int) < (p : Int) by omega), dF_ (show ¬ (400 : Int) < (b.length : Int) by omega)]
  simp only [bd_some, nT_, bF_, fF_]
  obtain ⟨nx, hrd⟩ := r_8 hv hd hb i hi n (by omega) p hp
  rw [hrd]
  show _ = some (c_m (rdW d.rules b i p))
  have hz := rdW_zV (d := d) (b := b) (i := i) (at_ := p)
  generalize rdW d.rules b i p = x at *
  unfold c_1 c_m
  by_cases h0 : x.2.2 = 0
  ·rw [iP_ h0, h0]; rfl
  ·rw [iN_ h0, hz h0]; rfl
 ·rw [iN_ h]
  unfold okV at h
  have e400 : decide ((400 : Int) < (b.length : Int)) = !decide ((b.length : Int) ≤ 400) := by
   by_cases hb : (b.length : Int) ≤ 400
   ·rw [dT_ hb, dF_ (by omega)]; rfl
   ·rw [dF_ hb, dT_ (by omega)]; rfl
  have e0 : decide (at_ < 0) = !decide (0 ≤ at_) := by
   by_cases hb : 0 ≤ at_
   ·rw [dT_ hb, dF_ (by omega)]; rfl
   ·rw [dF_ hb, dT_ (by omega)]; rfl
  have e1 : decide ((b.length : Int) < at_) = !decide (at_ ≤ (b.length : Int)) := by
   by_cases hb : at_ ≤ (b.length : Int)
   ·rw [dT_ hb, dF_ (by omega)]; rfl
   ·rw [dF_ hb, dT_ (by omega)]; rfl
  rw [e400, e0, e1]
  generalize (a_m d && b_V d rule) = a at *
  generalize decide (0 ≤ at_) = c at *
  generalize decide (at_ ≤ (b.length : Int)) = c' at *
  generalize decide ((b.length : Int) ≤ 400) = e at *
  cases a <;> cases c <;> cases c' <;> cases e <;> first | rfl | exact absurd rfl h
def c_H (d : g_) : Int := (d.rules.length : Int) - 1
theorem p_r (hd : SmD d) : g_e d = some (c_H d) := by
 have := hd.rules; have := MXv
 unfold g_e c_H; rw [a_h (by omega) (by omega)]
theorem p_s (hd : SmD d) : f_U d = some (c_H d) := by
 have := hd.rules; have := MXv
 unfold f_U c_H; rw [a_h (by omega) (by omega)]
def f_y (d : g_) (b : List UInt8) : Val × Int × Int := if (c_G d (c_H d) b 0).2.2 = 0 ∧ (c_G d (c_H d) b 0).2.1 < (b.length : Int) then (zV, (c_G d (c_H d) b 0).2.1, 7) else c_G d (c_H d) b 0
theorem l_k (v : Val) (e c : Int) (len : Int) : bd (α := Bool) (if (c == 0) = true then some (decide (e < len)) else some false) (fun x442 => if x442 = true then some ((⟨0, ([] : List UInt8), ([] : List Val)⟩ : Val), e, 7) else some ((⟨v.number, v.bytes, v.items⟩ : Val), e, c)) = some (if c = 0 ∧ e < len then (zV, e, 7) else (v, e, c)) := by
 rw [m_W]
 by_cases h0 : c = 0
 ·subst h0
  by_cases h1 : e < len
  ·rw [dT_ h1, iP_ (show (0 : Int) = 0 ∧ e < len from ⟨rfl, h1⟩)]; rfl
  ·rw [dF_ h1, iN_ (show ¬ ((0 : Int) = 0 ∧ e < len) from fun h => h1 h.2)]; rfl
 ·rw [show (c == 0) = false by simpa using h0, iN_ (show ¬ (c = 0 ∧ e < len) from fun h => h0 h.1)]; rfl
theorem p_t (hd : SmD d) {n : Nat} (hn : 500 ≤ n) : g_q n d b = some (f_y d b) := by
 unfold g_q f_y
 rw [p_r hd, bd_some, p_q hd hn]
 generalize c_G d (c_H d) b 0 = x
 exact l_k x.1 x.2.1 x.2.2 _
theorem p_u (hd : SmD d) {n : Nat} (hn : 500 ≤ n) : g_7 n d b = some (f_y d b) := by
 unfold g_7 f_y
 rw [p_s hd, bd_some, p_p hd hn]
 generalize c_G d (c_H d) b 0 = x
 exact l_k x.1 x.2.1 x.2.2 _
end
end Go.Vw
set_option linter.unusedVariables false
namespace Go.Vw
open Go.RowKit Dat
theorem p_v (x : Nat) : mkB (c_ 48 ((x % 10 : Nat) : Int)) = UInt8.ofNat (48 + x % 10) := by
 have : x % 10 = 0 ∨ x % 10 = 1 ∨ x % 10 = 2 ∨ x % 10 = 3 ∨ x % 10 = 4 ∨ x % 10 = 5 ∨ x % 10 = 6 ∨ x % 10 = 7 ∨ x % 10 = 8 ∨ x % 10 = 9 := by omega
 rcases this with h | h | h | h | h | h | h | h | h | h <;> rw [h] <;> decide
theorem l_l : ∀ (k x : Nat), x < 10 ^ k → 0 < x → x ≤ 4611686018427387904 → ∀ (s : Str) (n : Nat), k + 1 ≤ n → s.b.length + k ≤ 1000 →
  E_ (σ := Str × Int) (ρ := Str) (un2 fun x64 x66 => if (x66 != 0) = true then bd (α := Int) (if (decide ((a_C x66 10) < 0)) = true then some (e_t (a_C x66 10)) else some (a_C x66 10)) (fun x102 => bd (cat (⟨[mkB (c_ 48 x102)]⟩ : Str) x64) fun x119 => some (.next (x119, c_b x66 10))) else some (.brk (x64, x66))) n (s, (x : Int)) = some (.inl (⟨Lib.decDigits x ++ s.b⟩, 0))
 | 0, x, h, h0, _, _, _, _, _ => by simp at h; omega
 | k + 1, x, h, h0, hb, s, n, hn, hs => by
  obtain ⟨m, rfl⟩ : ∃ m, n = m + 1 := ⟨n - 1, by omega⟩
  unfold E_
  simp only [un2]
  rw [show ((x : Int) != 0) = true by simp; omega, h_T (by omega), n_0 (by omega) (by omega) (by omega), dF_ (show ¬ (x : Int) % 10 < 0 by omega)]
  simp only [fT_, bF_, fF_, bd_some]
  rw [show (x : Int) % 10 = ((x % 10 : Nat) : Int) by omega, p_v, c_n (by rw [a_e]; simp; omega), bd_some, show (x : Int) / 10 = ((x / 10 : Nat) : Int) by omega]
  simp only
  by_cases h10 : x < 10
  ·rw [show x / 10 = 0 by omega, show x % 10 = x by omega]
   obtain ⟨m', rfl⟩ : ∃ m', m = m' + 1 := ⟨m - 1, by omega⟩
   rw [Lib.decDigits, dif_pos h10]
   rfl
  ·rw [l_l k (x / 10) (by rw [Nat.pow_succ] at h; omega) (by omega) (by omega) _ m (by omega) (by simp; omega)]
   rw [Lib.decDigits.eq_1 x, dif_neg h10]
   simp
theorem l_m {n : Nat} (hn : 30 ≤ n) (i : Nat) (hi : i ≤ 1000000000) : c_P n i = some ⟨Lib.itoa i⟩ := by
 unfold c_P Lib.itoa
 rw [iN_ (show ¬ (i : Int) < 0 by omega)]
 by_cases h0 : i = 0
 ·subst h0
  rw [show ((((0 : Nat) : Int)).toNat) = 0 from rfl, Lib.decDigits, dif_pos (by omega)]
  rfl
 ·rw [show ((i : Int) == 0) = false by simp; omega]
  simp only [bF_, fF_]
  rw [l_l 20 i (by omega) (by omega) (by omega) ⟨[]⟩ n (by omega) (by simp), dF_ (show ¬ (i : Int) < 0 by omega)]
  simp
theorem h_r (i : Nat) (hi : i ≤ 1000000000) : (Lib.itoa i).length ≤ 21 := Lib.itoa_length_le i (by omega) (by omega)
section
variable {d : g_} {b : List UInt8}
end
end Go.Vw
set_option linter.unusedVariables false
namespace Go.Vw
open Go.RowKit Dat
section
variable {d : g_} {b : List UInt8}
def okF (d : g_) (b : List UInt8) : Bool := (f_y d b).2.2 == 0
theorem p_w (hd : SmD d) {n : Nat} (hn : 500 ≤ n) : g_8 n d b = some (okF d b) := by
 unfold g_8 okF
 rw [p_u hd hn]; rfl
end
end Go.Vw
