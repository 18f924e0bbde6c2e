import Derived.Test.YtfdcdeahjejlmaaGreatDoorVqP33
set_option linter.unusedVariables false
namespace Go.Vw
open Go.RowKit Dat
theorem q_j {p : Int} : b_T .i64 p 0 = p := by
 unfold b_T; rw [show (min (0 : Int).toNat IntKind.i64.bits) = 0 from rfl]; simp
theorem q_k {p : Int} (h0 : 0 ≤ p) (h1 : p < 65536) {n : Nat} (hn : 3 ≤ n) : g_C n p 2 = some [mkB (b_T .i64 p 8), mkB p] := by
 unfold g_C
 have hp : e_8 2 = some 65536 := by unfold e_8; rfl
 rw [a_V, hp]
 simp only [show (decide ((1 : Int) ≤ 2) && decide ((2 : Int) ≤ 4)) = true from rfl, bd_some, nT_, bF_, fF_, a_V]
 rw [a_h (by omega) (by omega), dT_ h0, dT_ (show p ≤ 65536 - 1 by omega)]
 simp only [Bool.and_self, nT_, bF_, fF_]
 obtain ⟨m, rfl⟩ : ∃ m, n = m + 3 := ⟨n - 3, by omega⟩
 have e1 : y_ 2 1 = 1 := by rw [a_h (by omega) (by omega)]; rfl
 have e2 : y_ 1 1 = 0 := by rw [a_h (by omega) (by omega)]; rfl
 have e3 : y_ 0 1 = -1 := by rw [a_h (by omega) (by omega)]; rfl
 have m1 : b_6 8 1 = 8 := by rw [k_p (by omega) (by omega)]; rfl
 have m0 : b_6 8 0 = 0 := by rw [k_p (by omega) (by omega)]; rfl
 have hLIM := a_e
 rw [e1]
 unfold E_
 simp only [un2, show decide ((0 : Int) ≤ 1) = true from rfl, fT_, m1, show nn 8 = some () from rfl, bd_some]
 rw [a_Q (by simp [hLIM]), bd_some, e2]
 unfold E_
 simp only [un2, show decide ((0 : Int) ≤ 0) = true from rfl, fT_, m0, show nn 0 = some () from rfl, bd_some]
 rw [a_Q (by simp; omega), bd_some, e3]
 unfold E_
 simp only [un2, show decide ((0 : Int) ≤ -1) = false from rfl, bF_, fF_]
 rw [bd_some, el_inl, q_j]; rfl
theorem m_c {n : Nat} (hn : 14 ≤ n) (r : o_) : f_4 n r = some (a_G r) := by
 unfold f_4 a_G
 rw [j_N n hn, d_u]
 simp only [bd_some]
 cases a_U r.name with
 | false => rfl
 | true =>
  simp only [nT_, bF_, fF_, Bool.true_and]
  cases (decide (0 ≤ r.version) && decide (r.version ≤ 7)) with
  | false => rfl
  | true =>
   simp only [nT_, bF_, fF_, Bool.true_and, bd_some]
   by_cases hd : r.data.length ≤ 400
   ·rw [dF_ (show ¬ (400 : Int) < (r.data.length : Int) by omega), dT_ hd]
    simp only [bF_, fF_, Bool.true_and]
    cases h1 : r.kind == 1 with
    | true => rfl
    | false =>
     cases h2 : r.kind == 2 with
     | false => rfl
     | true =>
      cases h3 : r.version == 0 with
      | false => rfl
      | true =>
       simp only [bF_, fF_, fT_, bd_some, Bool.false_or, Bool.true_and]
       congr 1
       rw [Bool.eq_iff_iff, beq_iff_eq, beq_iff_eq]; omega
   ·rw [dT_ (show (400 : Int) < (r.data.length : Int) by omega), dF_ hd]; rfl
theorem q_l (r : o_) : g_z r = some (a_G r) := by
 unfold g_z a_G
 rw [a_V, j_M, a_V]
 simp only [bd_some]
 cases hk : (decide (1 ≤ r.kind) && decide (r.kind ≤ 2)) with
 | false =>
  simp only [bF_, fF_, bd_some]
  congr 1
  symm
  have h1 : (r.kind == 1) = false := by rw [beq_eq_false_iff_ne]; rintro h; rw [h] at hk; simp at hk
  have h2 : (r.kind == 2) = false := by rw [beq_eq_false_iff_ne]; rintro h; rw [h] at hk; simp at hk
  rw [h1, h2]; simp
 | true =>
  simp only [fT_]
  cases a_U r.name with
  | false => rfl
  | true =>
   simp only [fT_, Bool.true_and]
   cases (decide (0 ≤ r.version) && decide (r.version ≤ 7)) with
   | false => rfl
   | true =>
    simp only [fT_, Bool.true_and]
    by_cases hd : r.data.length ≤ 400
    ·rw [dT_ (show (r.data.length : Int) ≤ 400 by omega), dT_ hd]
     simp only [fT_, Bool.true_and]
     cases h1 : r.kind == 1 with
     | true => rfl
     | false =>
      have h2 : (r.kind == 2) = true := by
       simp only [aE_, dE_] at hk
       have : r.kind ≠ 1 := by simpa using h1
       rw [beq_iff_eq]; omega
      rw [h2]
      cases h3 : r.version == 0 with
      | false => rfl
      | true =>
       simp only [bF_, fF_, fT_, bd_some, Bool.false_or, Bool.true_and]
       congr 1
       rw [Bool.eq_iff_iff, beq_iff_eq, beq_iff_eq]; omega
    ·rw [dF_ (show ¬ (r.data.length : Int) ≤ 400 by omega), dF_ hd]; rfl
theorem m_d {r : o_} (h : a_G r = true) : (d_w r).length ≤ 1000 := by
 obtain ⟨h1, _, _, _, _, _, h2⟩ := d_x h
 simp only [d_w, List.length_append, lC_, List.length_nil]; omega
theorem q_m {n : Nat} (hn : 500 ≤ n) (r : o_) : g_M n r = some (a_t r) := by
 have hML := MLv; have hMX := MXv; have hLIM := a_e
 unfold g_M a_t
 rw [m_c (by omega), bd_some]
 cases hv : a_G r with
 | false => rfl
 | true =>
  obtain ⟨h1, _, _, h4, _, _, h7⟩ := d_x hv
  have hb := m_d hv
  simp only [nT_, bF_, fF_, fT_]
  have hb' := hb
  unfold d_w at hb hb' ⊢
  simp only [List.length_append, lC_, List.length_nil] at hb
  rw [q_c (by omega) (by omega), bd_some, b_m (by simp only [lC_, List.length_nil]; omega), bd_some, b_m (by simp only [List.length_append, lC_, List.length_nil]; omega), bd_some, b_m (by simp only [List.length_append, lC_, List.length_nil]; omega), bd_some, l_I _ (by omega), bd_some, a_Q (by omega), bd_some]
theorem m_e {n : Nat} (hn : 500 ≤ n) (r : o_) : g_D n r = some (a_t r) := by
 have hML := MLv; have hMX := MXv; have hLIM := a_e
 unfold g_D a_t
 rw [q_l, bd_some]
 cases hv : a_G r with
 | false => rfl
 | true =>
  obtain ⟨h1, _, _, h4, _, _, h7⟩ := d_x hv
  have hb := m_d hv
  simp only [nT_, bF_, fF_, fT_]
  have hb' := hb
  unfold d_w at hb hb' ⊢
  simp only [List.length_append, lC_, List.length_nil] at hb
  rw [q_d (by omega) (by omega), bd_some, b_m (by simp only [lC_, List.length_nil]; omega), bd_some, a_Q (by simp only [List.length_append, lC_, List.length_nil]; omega), bd_some, q_k (by omega) (by omega) (by omega), bd_some, b_m (by simp only [List.length_append, lC_, List.length_nil]; omega), bd_some, b_m (by simp only [List.length_append, lC_, List.length_nil]; omega), bd_some, l_J, bd_some]
  simp only [List.append_assoc, List.cons_append, List.nil_append] at hb' ⊢
  rw [a_Q (by omega), bd_some]
  simp only [List.append_assoc, List.cons_append]
end Go.Vw
