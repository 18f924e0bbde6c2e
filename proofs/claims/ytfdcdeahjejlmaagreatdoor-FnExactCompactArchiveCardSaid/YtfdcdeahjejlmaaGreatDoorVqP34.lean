import Derived.Test.YtfdcdeahjejlmaaGreatDoorVqP33
set_option linter.unusedVariables false
namespace Go.Vw
open Go.RowKit Dat
theorem q_b {p : Int} : c_4 .i64 p 0 = p := by
 unfold c_4; rw [show (min (0 : Int).toNat IntKind.i64.bits) = 0 from rfl]; simp
theorem q_c {p : Int} (h0 : 0 ≤ p) (h1 : p < 65536) {n : Nat} (hn : 3 ≤ n) : g_L n p 2 = some [mkB (c_4 .i64 p 8), mkB p] := by
 unfold g_L
 have hp : e_7 2 = some 65536 := by unfold e_7; rfl
 rw [b_5, hp]
 simp only [show (decide ((1 : Int) ≤ 2) && decide ((2 : Int) ≤ 4)) = true from rfl, bd_some, nT_, bF_, fF_, b_5]
 rw [a_n (by omega) (by omega), dT_ h0, dT_ (show p ≤ 65536 - 1 by omega)]
 simp only [Bool.and_self, nT_, bF_, fF_]
 obtain ⟨m, rfl⟩ : ∃ m, n = m + 3 := ⟨n - 3, by omega⟩
 have e1 : B_ 2 1 = 1 := by rw [a_n (by omega) (by omega)]; rfl
 have e2 : B_ 1 1 = 0 := by rw [a_n (by omega) (by omega)]; rfl
 have e3 : B_ 0 1 = -1 := by rw [a_n (by omega) (by omega)]; rfl
 have m1 : b_h 8 1 = 8 := by rw [k_x (by omega) (by omega)]; rfl
 have m0 : b_h 8 0 = 0 := by rw [k_x (by omega) (by omega)]; rfl
 have hLIM := a_k
 rw [e1]
 unfold R_
 simp only [un2, show decide ((0 : Int) ≤ 1) = true from rfl, fT_, m1, show nn 8 = some () from rfl, bd_some]
 rw [b_1 (by simp [hLIM]), bd_some, e2]
 unfold R_
 simp only [un2, show decide ((0 : Int) ≤ 0) = true from rfl, fT_, m0, show nn 0 = some () from rfl, bd_some]
 rw [b_1 (by simp; omega), bd_some, e3]
 unfold R_
 simp only [un2, show decide ((0 : Int) ≤ -1) = false from rfl, bF_, fF_]
 rw [bd_some, el_inl, q_b]; rfl
theorem m_o {n : Nat} (hn : 14 ≤ n) (r : p_) : f_4 n r = some (a_P r) := by
 unfold f_4 a_P
 rw [j_T n hn, d_r]
 simp only [bd_some]
 cases b_4 r.name with
 | false => rfl
 | true =>
  simp only [nT_, bF_, fF_, Bool.true_and]
  cases (decide (0 ≤ r.version) && decide (r.version ≤ 7)) with
  | false => rfl
  | true =>
   simp only [nT_, bF_, fF_, Bool.true_and, bd_some]
   by_cases hd : r.data.length ≤ 400
   ·rw [dF_ (show ¬ (400 : Int) < (r.data.length : Int) by omega), dT_ hd]
    simp only [bF_, fF_, Bool.true_and]
    cases h1 : r.kind == 1 with
    | true => rfl
    | false =>
     cases h2 : r.kind == 2 with
     | false => rfl
     | true =>
      cases h3 : r.version == 0 with
      | false => rfl
      | true =>
       simp only [bF_, fF_, fT_, bd_some, Bool.false_or, Bool.true_and]
       congr 1
       rw [Bool.eq_iff_iff, beq_iff_eq, beq_iff_eq]; omega
   ·rw [dT_ (show (400 : Int) < (r.data.length : Int) by omega), dF_ hd]; rfl
theorem q_d (r : p_) : g_I r = some (a_P r) := by
 unfold g_I a_P
 rw [b_5, j_S, b_5]
 simp only [bd_some]
 cases hk : (decide (1 ≤ r.kind) && decide (r.kind ≤ 2)) with
 | false =>
  simp only [bF_, fF_, bd_some]
  congr 1
  symm
  have h1 : (r.kind == 1) = false := by rw [beq_eq_false_iff_ne]; rintro h; rw [h] at hk; simp at hk
  have h2 : (r.kind == 2) = false := by rw [beq_eq_false_iff_ne]; rintro h; rw [h] at hk; simp at hk
  rw [h1, h2]; simp
 | true =>
  simp only [fT_]
  cases b_4 r.name with
  | false => rfl
  | true =>
   simp only [fT_, Bool.true_and]
   cases (decide (0 ≤ r.version) && decide (r.version ≤ 7)) with
   | false => rfl
   | true =>
    simp only [fT_, Bool.true_and]
    by_cases hd : r.data.length ≤ 400
    ·rw [dT_ (show (r.data.length : Int) ≤ 400 by omega), dT_ hd]
     simp only [fT_, Bool.true_and]
     cases h1 : r.kind == 1 with
     | true => rfl
     | false =>
      have h2 : (r.kind == 2) = true := by
       simp only [aE_, dE_] at hk
       have : r.kind ≠ 1 := by simpa using h1
       rw [beq_iff_eq]; omega
      rw [h2]
      cases h3 : r.version == 0 with
      | false => rfl
      | true =>
       simp only [bF_, fF_, fT_, bd_some, Bool.false_or, Bool.true_and]
       congr 1
       rw [Bool.eq_iff_iff, beq_iff_eq, beq_iff_eq]; omega
    ·rw [dF_ (show ¬ (r.data.length : Int) ≤ 400 by omega), dF_ hd]; rfl
theorem k_a {r : p_} (h : a_P r = true) : (d_t r).length ≤ 1000 := by
 obtain ⟨h1, _, _, _, _, _, h2⟩ := e_1 h
 simp only [d_t, List.length_append, lC_, List.length_nil]; omega
theorem m_p {n : Nat} (hn : 500 ≤ n) (r : p_) : f_5 n r = some (a_o r) := by
 have hML := MLv; have hMX := MXv; have hLIM := a_k
 unfold f_5 a_o
 rw [m_o (by omega), bd_some]
 cases hv : a_P r with
 | false => rfl
 | true =>
  obtain ⟨h1, _, _, h4, _, _, h7⟩ := e_1 hv
  have hb := k_a hv
  simp only [nT_, bF_, fF_, fT_]
  have hb' := hb
  unfold d_t at hb hb' ⊢
  simp only [List.length_append, lC_, List.length_nil] at hb
  rw [q_4 (by omega) (by omega), bd_some, b_b (by simp only [lC_, List.length_nil]; omega), bd_some, b_b (by simp only [List.length_append, lC_, List.length_nil]; omega), bd_some, b_b (by simp only [List.length_append, lC_, List.length_nil]; omega), bd_some, l_U _ (by omega), bd_some, b_1 (by omega), bd_some]
theorem k_b {n : Nat} (hn : 500 ≤ n) (r : p_) : e_Z n r = some (a_o r) := by
 have hML := MLv; have hMX := MXv; have hLIM := a_k
 unfold e_Z a_o
 rw [q_d, bd_some]
 cases hv : a_P r with
 | false => rfl
 | true =>
  obtain ⟨h1, _, _, h4, _, _, h7⟩ := e_1 hv
  have hb := k_a hv
  simp only [nT_, bF_, fF_, fT_]
  have hb' := hb
  unfold d_t at hb hb' ⊢
  simp only [List.length_append, lC_, List.length_nil] at hb
  rw [q_5 (by omega) (by omega), bd_some, b_b (by simp only [lC_, List.length_nil]; omega), bd_some, b_1 (by simp only [List.length_append, lC_, List.length_nil]; omega), bd_some, q_c (by omega) (by omega) (by omega), bd_some, b_b (by simp only [List.length_append, lC_, List.length_nil]; omega), bd_some, b_b (by simp only [List.length_append, lC_, List.length_nil]; omega), bd_some, l_V, bd_some]
  simp only [List.append_assoc, List.cons_append, List.nil_append] at hb' ⊢
  rw [b_1 (by omega), bd_some]
  simp only [List.append_assoc, List.cons_append, List.nil_append]
end Go.Vw
