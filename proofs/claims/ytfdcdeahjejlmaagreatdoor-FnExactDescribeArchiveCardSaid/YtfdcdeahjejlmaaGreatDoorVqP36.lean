import Derived.Test.YtfdcdeahjejlmaaGreatDoorVqP35
set_option linter.unusedVariables false
namespace Go.Vw
open Go.RowKit Dat
theorem k_6 {b : List UInt8} {D : Int → Option (o_ × Int × Bool)} (hD : ∀ k : Nat, k ≤ b.length → D (k : Int) = some (d_A k (a_i (b.drop k)))) (hb : b.length ≤ ML) : ∀ (m k : Nat) (acc : List o_), b.length - k < m → k ≤ b.length → acc.length ≤ k →
  E_ (σ := (List o_) × Int) (ρ := (List o_) × Int) (un2 fun x191 x199 => bd3 (D x199) fun r294 r295 r296 => if (!r296) = true then some (.ret (x191, x199)) else bd (psh x191 r294) fun x370 => some (.next (x370, r295))) m (acc, (k : Int)) = some (.inr (acc ++ (a_a (b.drop k)).1, ((k + (a_a (b.drop k)).2 : Nat) : Int)))
 | 0, k, acc, h, _, _ => by omega
 | m + 1, k, acc, h, hk, ha => by
  have hML := MLv; have hMX := MXv; have hLIM := a_e
  unfold E_
  simp only [un2]
  rw [hD k hk]
  cases hd : a_i (b.drop k) with
  | none =>
   rw [e_x hd]
   simp [d_A, bd3_some]
  | some x =>
   obtain ⟨r, j⟩ := x
   have hp := f_B hd
   rw [List.length_drop] at hp
   simp only [d_A, bd3_some, nT_, bF_, fF_]
   rw [a_Q (by omega), bd_some]
   simp only
   rw [k_6 hD hb m (k + j) (acc ++ [r]) (by omega) (by omega) (by simp; omega), h_C hd, List.drop_drop, List.append_assoc]
   simp only [List.cons_append, List.nil_append]
   rw [Nat.add_assoc]
theorem m_k {b : List UInt8} (hb : b.length ≤ ML) {n : Nat} (hn : 1060100 ≤ n) : f_5 n b = some ((a_a b).1, ((a_a b).2 : Int)) := by
 have hML := MLv; have hMX := MXv
 unfold f_5
 have := k_6 (b := b) (D := d_L n b) (fun k hk => m_j hb hk hn) hb n 0 [] (by omega) (Nat.zero_le _) (Nat.zero_le _)
 rw [show (((0 : Nat)) : Int) = 0 from rfl] at this
 rw [this, bd_some, el_inr]
 simp
theorem h_G {b : List UInt8} (hb : b.length ≤ ML) {n : Nat} (hn : 1060100 ≤ n) : d_K n b = some ((a_a b).1, ((a_a b).2 : Int)) := by
 have hML := MLv; have hMX := MXv
 unfold d_K
 have := k_6 (b := b) (D := e_Z n b) (fun k hk => q_w hb hk hn) hb n 0 [] (by omega) (Nat.zero_le _) (Nat.zero_le _)
 rw [show (((0 : Nat)) : Int) = 0 from rfl] at this
 rw [this, bd_some, el_inr]
 simp
def b_t (s : List UInt8) (t : Nat) : Bool := (a_a (s.take t)).2 == t
theorem m_l (s : List UInt8) : b_t s 0 = true := by simp [b_t, a_a, d_f]
theorem q_x {s : List UInt8} {t : Nat} (h : a_i s = none) (ht : 0 < t) : b_t s t = false := by
 have : a_i (s.take t) = none := by
  cases hx : a_i (s.take t) with
  | none => rfl
  | some x => obtain ⟨r, k⟩ := x; rw [(l_X hx).1] at h; cases h
 unfold b_t
 rw [e_x this, beq_eq_false_iff_ne]
 simp only; omega
theorem q_y {s : List UInt8} {t j : Nat} {r : o_} (h : a_i s = some (r, j)) (ht : 0 < t) : b_t s t = (decide (j ≤ t) && b_t (s.drop j) (t - j)) := by
 unfold b_t
 by_cases hj : j ≤ t
 ·rw [dT_ hj, Bool.true_and, h_C (q_5 h hj), List.drop_take]
  rw [Bool.eq_iff_iff, beq_iff_eq, beq_iff_eq]
  simp only; omega
 ·rw [dF_ hj, Bool.false_and]
  have : a_i (s.take t) = none := by
   cases hx : a_i (s.take t) with
   | none => rfl
   | some x =>
    obtain ⟨r', k'⟩ := x
    obtain ⟨h1, h2⟩ := l_X hx
    rw [h1] at h; cases h; omega
  rw [e_x this, beq_eq_false_iff_ne]
  simp only; omega
def b_u (l : Log) : Bool := (decide (0 ≤ l.stored) && decide (l.stored ≤ (l.bytes.length : Int))) && ((a_a l.bytes).2 == l.bytes.length && b_t l.bytes l.stored.toNat)
theorem m_m {l : Log} (hb : l.bytes.length ≤ ML) {n : Nat} (hn : 1060100 ≤ n) : f_0 n l = some (b_u l) := by
 have hML := MLv; have hMX := MXv
 unfold f_0 b_u
 rw [a_V, bd_some]
 cases hr : (decide ((0 : Int) ≤ l.stored) && decide (l.stored ≤ (l.bytes.length : Int))) with
 | false => rfl
 | true =>
  simp only [aE_, dE_] at hr
  simp only [nT_, bF_, fF_, Bool.true_and]
  have hsl : slc l.bytes 0 l.stored = some (l.bytes.take l.stored.toNat) := by rw [e_6 (by omega) hr.1 hr.2]; simp
  rw [h_G hb hn, bd2_some, hsl, bd_some, h_G (by rw [List.length_take]; omega) hn, bd2_some]
  have e1 : ((((a_a l.bytes).2 : Nat) : Int) == (l.bytes.length : Int)) = ((a_a l.bytes).2 == l.bytes.length) := by
   rw [Bool.eq_iff_iff, beq_iff_eq, beq_iff_eq]; omega
  have e2 : ((((a_a (l.bytes.take l.stored.toNat)).2 : Nat) : Int) == l.stored) = b_t l.bytes l.stored.toNat := by
   unfold b_t; rw [Bool.eq_iff_iff, beq_iff_eq, beq_iff_eq]; omega
  rw [e1, e2]
  cases (a_a l.bytes).2 == l.bytes.length <;> rfl
theorem m_n {b : List UInt8} {t n : Nat} (hb : b.length ≤ ML) (hn : 1060100 ≤ n) : ∀ (m k : Nat) (e : Bool), b.length - k < m → k ≤ b.length →
  E_ (σ := Bool × Int) (ρ := Bool) (un2 fun x159 x160 => if (decide (x160 < (b.length : Int))) = true then bd3 (d_L n b x160) fun r237 r238 r239 => if (!r239) = true then some (.ret false) else bd (α := Bool) (if x159 = true then some true else some (r238 == (t : Int))) (fun x293 => some (.next (x293, r238))) else some (.brk (x159, x160))) m (e, (k : Int)) = some (if (a_a (b.drop k)).2 = b.length - k then .inl (e || (decide (k < t) && b_t (b.drop k) (t - k)), (b.length : Int)) else .inr false)
 | 0, k, e, h, _ => by omega
 | m + 1, k, e, h, hk => by
  have hML := MLv; have hMX := MXv
  unfold E_
  simp only [un2]
  by_cases hlt : k < b.length
  ·rw [dT_ (by omega), iP_ rfl, m_j hb hk hn]
   cases hd : a_i (b.drop k) with
   | none =>
    rw [e_x hd, iN_ (by simp only; omega)]
    rfl
   | some x =>
    obtain ⟨r, j⟩ := x
    have hp := f_B hd
    rw [List.length_drop] at hp
    simp only [d_A, bd3_some, nT_, bF_, fF_]
    have e0 : (if e = true then some true else some (((k + j : Nat) : Int) == (t : Int))) = some (e || decide (k + j = t)) := by
     cases e
     ·simp only [bF_, fF_, Bool.false_or]; congr 1; rw [Bool.eq_iff_iff, beq_iff_eq, dE_]; omega
     ·rfl
    rw [e0, bd_some]
    simp only
    rw [m_n hb hn m (k + j) _ (by omega) (by omega), h_C hd, List.drop_drop]
    simp only
    by_cases hf : (a_a (b.drop (k + j))).2 = b.length - (k + j)
    ·rw [iP_ hf, iP_ (by omega)]
     congr 3
     rw [Bool.or_assoc]
     congr 1
     by_cases hkt : k < t
     ·rw [dT_ hkt, Bool.true_and, q_y hd (by omega), List.drop_drop]
      by_cases h1 : k + j = t
      ·subst h1
       rw [dT_ rfl, dT_ (show j ≤ k + j - k by omega), show k + j - k - j = 0 by omega, m_l]; simp
      ·rw [dF_ h1, Bool.false_or]
       by_cases h2 : k + j < t
       ·rw [dT_ h2, dT_ (show j ≤ t - k by omega), show t - k - j = t - (k + j) by omega]
       ·rw [dF_ h2, dF_ (show ¬ j ≤ t - k by omega)]; simp
     ·rw [dF_ hkt, dF_ (show ¬ k + j = t by omega), dF_ (show ¬ k + j < t by omega)]; simp
    ·rw [iN_ hf, iN_ (by omega)]
  ·have : k = b.length := by omega
   subst this
   rw [dF_ (by omega), iN_ (by simp)]
   have hnil : b.drop b.length = [] := by simp
   rw [hnil, e_x (h_F (by simp)), iP_ (by simp)]
   simp only
   congr 3
   have : (decide (b.length < t) && b_t [] (t - b.length)) = false := by
    by_cases h1 : b.length < t
    ·rw [q_x (h_F (by simp)) (by omega)]; simp
    ·rw [dF_ h1]; rfl
   rw [this, Bool.or_false]
theorem m_o {l : Log} (hb : l.bytes.length ≤ ML) {n : Nat} (hn : 1060100 ≤ n) : g_N n l = some (b_u l) := by
 have hML := MLv; have hMX := MXv
 unfold g_N i_6 b_u
 rw [d_u, bd_some]
 cases hr : (decide ((0 : Int) ≤ l.stored) && decide (l.stored ≤ (l.bytes.length : Int))) with
 | false => rfl
 | true =>
  simp only [aE_, dE_] at hr
  simp only [nT_, bF_, fF_, Bool.true_and]
  have h := m_n (b := l.bytes) (t := l.stored.toNat) hb hn n 0 (l.stored == 0) (by omega) (Nat.zero_le _)
  rw [show ((l.stored.toNat : Nat) : Int) = l.stored by omega, show (((0 : Nat)) : Int) = 0 from rfl, List.drop_zero, Nat.sub_zero, Nat.sub_zero] at h
  rw [h, bd_some]
  by_cases hf : (a_a l.bytes).2 = l.bytes.length
  ·rw [iP_ hf, el_inl, show ((a_a l.bytes).2 == l.bytes.length) = true by simpa using hf, Bool.true_and]
   simp only [un2]
   have : (l.stored == 0 || (decide (0 < l.stored.toNat) && b_t l.bytes l.stored.toNat)) = b_t l.bytes l.stored.toNat := by
    by_cases h0 : l.stored = 0
    ·rw [h0]; simp [m_l]
    ·rw [show (l.stored == 0) = false by simpa using h0, dT_ (by omega)]; simp
   rw [this]
   cases b_t l.bytes l.stored.toNat <;> rfl
  ·rw [iN_ hf, el_inr, show ((a_a l.bytes).2 == l.bytes.length) = false by simpa using hf]; rfl
end Go.Vw
