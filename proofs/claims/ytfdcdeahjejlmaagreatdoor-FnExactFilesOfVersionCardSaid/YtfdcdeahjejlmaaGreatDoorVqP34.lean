import Derived.Test.YtfdcdeahjejlmaaGreatDoorVqP33
set_option linter.unusedVariables false
namespace Go.Vw
open Go.RowKit Dat
theorem p_4 {p : Int} : b_L .i64 p 0 = p := by
 unfold b_L; rw [show (min (0 : Int).toNat IntKind.i64.bits) = 0 from rfl]; simp
theorem p_5 {p : Int} (h0 : 0 ≤ p) (h1 : p < 65536) {n : Nat} (hn : 3 ≤ n) : g_o n p 2 = some [mkB (b_L .i64 p 8), mkB p] := by
 unfold g_o
 have hp : d_Y 2 = some 65536 := by unfold d_Y; rfl
 rw [a_R, hp]
 simp only [show (decide ((1 : Int) ≤ 2) && decide ((2 : Int) ≤ 4)) = true from rfl, bd_some, nT_, bF_, fF_, a_R]
 rw [a_g (by omega) (by omega), dT_ h0, dT_ (show p ≤ 65536 - 1 by omega)]
 simp only [Bool.and_self, nT_, bF_, fF_]
 obtain ⟨m, rfl⟩ : ∃ m, n = m + 3 := ⟨n - 3, by omega⟩
 have e1 : y_ 2 1 = 1 := by rw [a_g (by omega) (by omega)]; rfl
 have e2 : y_ 1 1 = 0 := by rw [a_g (by omega) (by omega)]; rfl
 have e3 : y_ 0 1 = -1 := by rw [a_g (by omega) (by omega)]; rfl
 have m1 : b_3 8 1 = 8 := by rw [j_H (by omega) (by omega)]; rfl
 have m0 : b_3 8 0 = 0 := by rw [j_H (by omega) (by omega)]; rfl
 have hLIM := a_o
 rw [e1]
 unfold I_
 simp only [un2, show decide ((0 : Int) ≤ 1) = true from rfl, fT_, m1, show nn 8 = some () from rfl, bd_some]
 rw [a_Z (by simp [hLIM]), bd_some, e2]
 unfold I_
 simp only [un2, show decide ((0 : Int) ≤ 0) = true from rfl, fT_, m0, show nn 0 = some () from rfl, bd_some]
 rw [a_Z (by simp; omega), bd_some, e3]
 unfold I_
 simp only [un2, show decide ((0 : Int) ≤ -1) = false from rfl, bF_, fF_]
 rw [bd_some, el_inl, p_4]; rfl
theorem l_F {n : Nat} (hn : 14 ≤ n) (r : n_) : e_P n r = some (a_I r) := by
 unfold e_P a_I
 rw [j_8 n hn, d_k]
 simp only [bd_some]
 cases a_Q r.name with
 | false => rfl
 | true =>
  simp only [nT_, bF_, fF_, Bool.true_and]
  cases (decide (0 ≤ r.version) && decide (r.version ≤ 7)) with
  | false => rfl
  | true =>
   simp only [nT_, bF_, fF_, Bool.true_and, bd_some]
   by_cases hd : r.data.length ≤ 400
   ·rw [dF_ (show ¬ (400 : Int) < (r.data.length : Int) by omega), dT_ hd]
    simp only [bF_, fF_, Bool.true_and]
    cases h1 : r.kind == 1 with
    | true => rfl
    | false =>
     cases h2 : r.kind == 2 with
     | false => rfl
     | true =>
      cases h3 : r.version == 0 with
      | false => rfl
      | true =>
       simp only [bF_, fF_, fT_, bd_some, Bool.false_or, Bool.true_and]
       congr 1
       rw [Bool.eq_iff_iff, beq_iff_eq, beq_iff_eq]; omega
   ·rw [dT_ (show (400 : Int) < (r.data.length : Int) by omega), dF_ hd]; rfl
theorem p_6 (r : n_) : g_l r = some (a_I r) := by
 unfold g_l a_I
 rw [a_R, j_7, a_R]
 simp only [bd_some]
 cases hk : (decide (1 ≤ r.kind) && decide (r.kind ≤ 2)) with
 | false =>
  simp only [bF_, fF_, bd_some]
  congr 1
  symm
  have h1 : (r.kind == 1) = false := by rw [beq_eq_false_iff_ne]; rintro h; rw [h] at hk; simp at hk
  have h2 : (r.kind == 2) = false := by rw [beq_eq_false_iff_ne]; rintro h; rw [h] at hk; simp at hk
  rw [h1, h2]; simp
 | true =>
  simp only [fT_]
  cases a_Q r.name with
  | false => rfl
  | true =>
   simp only [fT_, Bool.true_and]
   cases (decide (0 ≤ r.version) && decide (r.version ≤ 7)) with
   | false => rfl
   | true =>
    simp only [fT_, Bool.true_and]
    by_cases hd : r.data.length ≤ 400
    ·rw [dT_ (show (r.data.length : Int) ≤ 400 by omega), dT_ hd]
     simp only [fT_, Bool.true_and]
     cases h1 : r.kind == 1 with
     | true => rfl
     | false =>
      have h2 : (r.kind == 2) = true := by
       simp only [aE_, dE_] at hk
       have : r.kind ≠ 1 := by simpa using h1
       rw [beq_iff_eq]; omega
      rw [h2]
      cases h3 : r.version == 0 with
      | false => rfl
      | true =>
       simp only [bF_, fF_, fT_, bd_some, Bool.false_or, Bool.true_and]
       congr 1
       rw [Bool.eq_iff_iff, beq_iff_eq, beq_iff_eq]; omega
    ·rw [dF_ (show ¬ (r.data.length : Int) ≤ 400 by omega), dF_ hd]; rfl
theorem l_G {r : n_} (h : a_I r = true) : (d_m r).length ≤ 1000 := by
 obtain ⟨h1, _, _, _, _, _, h2⟩ := d_R h
 simp only [d_m, List.length_append, lC_, List.length_nil]; omega
theorem p_7 {n : Nat} (hn : 500 ≤ n) (r : n_) : g_A n r = some (a_s r) := by
 have hML := MLv; have hMX := MXv; have hLIM := a_o
 unfold g_A a_s
 rw [l_F (by omega), bd_some]
 cases hv : a_I r with
 | false => rfl
 | true =>
  obtain ⟨h1, _, _, h4, _, _, h7⟩ := d_R hv
  have hb := l_G hv
  simp only [nT_, bF_, fF_, fT_]
  have hb' := hb
  unfold d_m at hb hb' ⊢
  simp only [List.length_append, lC_, List.length_nil] at hb
  rw [o_X (by omega) (by omega), bd_some, b_h (by simp only [lC_, List.length_nil]; omega), bd_some, b_h (by simp only [List.length_append, lC_, List.length_nil]; omega), bd_some, b_h (by simp only [List.length_append, lC_, List.length_nil]; omega), bd_some, l_b _ (by omega), bd_some, a_Z (by omega), bd_some]
theorem l_H {n : Nat} (hn : 500 ≤ n) (r : n_) : g_p n r = some (a_s r) := by
 have hML := MLv; have hMX := MXv; have hLIM := a_o
 unfold g_p a_s
 rw [p_6, bd_some]
 cases hv : a_I r with
 | false => rfl
 | true =>
  obtain ⟨h1, _, _, h4, _, _, h7⟩ := d_R hv
  have hb := l_G hv
  simp only [nT_, bF_, fF_, fT_]
  have hb' := hb
  unfold d_m at hb hb' ⊢
  simp only [List.length_append, lC_, List.length_nil] at hb
  rw [o_Y (by omega) (by omega), bd_some, b_h (by simp only [lC_, List.length_nil]; omega), bd_some, a_Z (by simp only [List.length_append, lC_, List.length_nil]; omega), bd_some, p_5 (by omega) (by omega) (by omega), bd_some, b_h (by simp only [List.length_append, lC_, List.length_nil]; omega), bd_some, b_h (by simp only [List.length_append, lC_, List.length_nil]; omega), bd_some, l_c, bd_some]
  simp only [List.append_assoc, List.cons_append, List.nil_append] at hb' ⊢
  rw [a_Z (by omega), bd_some]
  simp only [List.append_assoc, List.cons_append, List.nil_append]
end Go.Vw
