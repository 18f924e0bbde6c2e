import Derived.Test.YtfdcdeahjejlmaaGreatDoorVqP33
set_option linter.unusedVariables false
namespace Go.Vw
open Go.RowKit Dat
theorem q_l {p : Int} : c_4 .i64 p 0 = p := by
 unfold c_4; rw [show (min (0 : Int).toNat IntKind.i64.bits) = 0 from rfl]; simp
theorem q_m {p : Int} (h0 : 0 ≤ p) (h1 : p < 65536) {n : Nat} (hn : 3 ≤ n) : g_O n p 2 = some [mkB (c_4 .i64 p 8), mkB p] := by
 unfold g_O
 have hp : e_8 2 = some 65536 := by unfold e_8; rfl
 rw [b_6, hp]
 simp only [show (decide ((1 : Int) ≤ 2) && decide ((2 : Int) ≤ 4)) = true from rfl, bd_some, nT_, bF_, fF_, b_6]
 rw [a_p (by omega) (by omega), dT_ h0, dT_ (show p ≤ 65536 - 1 by omega)]
 simp only [Bool.and_self, nT_, bF_, fF_]
 obtain ⟨m, rfl⟩ : ∃ m, n = m + 3 := ⟨n - 3, by omega⟩
 have e1 : A_ 2 1 = 1 := by rw [a_p (by omega) (by omega)]; rfl
 have e2 : A_ 1 1 = 0 := by rw [a_p (by omega) (by omega)]; rfl
 have e3 : A_ 0 1 = -1 := by rw [a_p (by omega) (by omega)]; rfl
 have m1 : b_h 8 1 = 8 := by rw [k_J (by omega) (by omega)]; rfl
 have m0 : b_h 8 0 = 0 := by rw [k_J (by omega) (by omega)]; rfl
 have hLIM := a_l
 rw [e1]
 unfold S_
 simp only [un2, show decide ((0 : Int) ≤ 1) = true from rfl, fT_, m1, show nn 8 = some () from rfl, bd_some]
 rw [b_2 (by simp [hLIM]), bd_some, e2]
 unfold S_
 simp only [un2, show decide ((0 : Int) ≤ 0) = true from rfl, fT_, m0, show nn 0 = some () from rfl, bd_some]
 rw [b_2 (by simp; omega), bd_some, e3]
 unfold S_
 simp only [un2, show decide ((0 : Int) ≤ -1) = false from rfl, bF_, fF_]
 rw [bd_some, el_inl, q_l]; rfl
theorem k_k {n : Nat} (hn : 14 ≤ n) (r : o_) : e_h n r = some (a_s r) := by
 unfold e_h a_s
 rw [k_3 n hn, d_u]
 simp only [bd_some]
 cases b_5 r.name with
 | false => rfl
 | true =>
  simp only [nT_, bF_, fF_, Bool.true_and]
  cases (decide (0 ≤ r.version) && decide (r.version ≤ 7)) with
  | false => rfl
  | true =>
   simp only [nT_, bF_, fF_, Bool.true_and, bd_some]
   by_cases hd : r.data.length ≤ 400
   ·rw [dF_ (show ¬ (400 : Int) < (r.data.length : Int) by omega), dT_ hd]
    simp only [bF_, fF_, Bool.true_and]
    cases h1 : r.kind == 1 with
    | true => rfl
    | false =>
     cases h2 : r.kind == 2 with
     | false => rfl
     | true =>
      cases h3 : r.version == 0 with
      | false => rfl
      | true =>
       simp only [bF_, fF_, fT_, bd_some, Bool.false_or, Bool.true_and]
       congr 1
       rw [Bool.eq_iff_iff, beq_iff_eq, beq_iff_eq]; omega
   ·rw [dT_ (show (400 : Int) < (r.data.length : Int) by omega), dF_ hd]; rfl
theorem m_y (r : o_) : f_2 r = some (a_s r) := by
 unfold f_2 a_s
 rw [b_6, k_2, b_6]
 simp only [bd_some]
 cases hk : (decide (1 ≤ r.kind) && decide (r.kind ≤ 2)) with
 | false =>
  simp only [bF_, fF_, bd_some]
  congr 1
  symm
  have h1 : (r.kind == 1) = false := by rw [beq_eq_false_iff_ne]; rintro h; rw [h] at hk; simp at hk
  have h2 : (r.kind == 2) = false := by rw [beq_eq_false_iff_ne]; rintro h; rw [h] at hk; simp at hk
  rw [h1, h2]; simp
 | true =>
  simp only [fT_]
  cases b_5 r.name with
  | false => rfl
  | true =>
   simp only [fT_, Bool.true_and]
   cases (decide (0 ≤ r.version) && decide (r.version ≤ 7)) with
   | false => rfl
   | true =>
    simp only [fT_, Bool.true_and]
    by_cases hd : r.data.length ≤ 400
    ·rw [dT_ (show (r.data.length : Int) ≤ 400 by omega), dT_ hd]
     simp only [fT_, Bool.true_and]
     cases h1 : r.kind == 1 with
     | true => rfl
     | false =>
      have h2 : (r.kind == 2) = true := by
       simp only [aE_, dE_] at hk
       have : r.kind ≠ 1 := by simpa using h1
       rw [beq_iff_eq]; omega
      rw [h2]
      cases h3 : r.version == 0 with
      | false => rfl
      | true =>
       simp only [bF_, fF_, fT_, bd_some, Bool.false_or, Bool.true_and]
       congr 1
       rw [Bool.eq_iff_iff, beq_iff_eq, beq_iff_eq]; omega
    ·rw [dF_ (show ¬ (r.data.length : Int) ≤ 400 by omega), dF_ hd]; rfl
theorem k_l {r : o_} (h : a_s r = true) : (d_w r).length ≤ 1000 := by
 obtain ⟨h1, _, _, _, _, _, h2⟩ := e_1 h
 simp only [d_w, List.length_append, lC_, List.length_nil]; omega
theorem m_z {n : Nat} (hn : 500 ≤ n) (r : o_) : f_7 n r = some (a_r r) := by
 have hML := MLv; have hMX := MXv; have hLIM := a_l
 unfold f_7 a_r
 rw [k_k (by omega), bd_some]
 cases hv : a_s r with
 | false => rfl
 | true =>
  obtain ⟨h1, _, _, h4, _, _, h7⟩ := e_1 hv
  have hb := k_l hv
  simp only [nT_, bF_, fF_, fT_]
  have hb' := hb
  unfold d_w at hb hb' ⊢
  simp only [List.length_append, lC_, List.length_nil] at hb
  rw [q_e (by omega) (by omega), bd_some, b_d (by simp only [lC_, List.length_nil]; omega), bd_some, b_d (by simp only [List.length_append, lC_, List.length_nil]; omega), bd_some, b_d (by simp only [List.length_append, lC_, List.length_nil]; omega), bd_some, m_4 _ (by omega), bd_some, b_2 (by omega), bd_some]
theorem k_m {n : Nat} (hn : 500 ≤ n) (r : o_) : f_3 n r = some (a_r r) := by
 have hML := MLv; have hMX := MXv; have hLIM := a_l
 unfold f_3 a_r
 rw [m_y, bd_some]
 cases hv : a_s r with
 | false => rfl
 | true =>
  obtain ⟨h1, _, _, h4, _, _, h7⟩ := e_1 hv
  have hb := k_l hv
  simp only [nT_, bF_, fF_, fT_]
  have hb' := hb
  unfold d_w at hb hb' ⊢
  simp only [List.length_append, lC_, List.length_nil] at hb
  rw [q_f (by omega) (by omega), bd_some, b_d (by simp only [lC_, List.length_nil]; omega), bd_some, b_2 (by simp only [List.length_append, lC_, List.length_nil]; omega), bd_some, q_m (by omega) (by omega) (by omega), bd_some, b_d (by simp only [List.length_append, lC_, List.length_nil]; omega), bd_some, b_d (by simp only [List.length_append, lC_, List.length_nil]; omega), bd_some, m_5, bd_some]
  simp only [List.append_assoc, List.cons_append, List.nil_append] at hb' ⊢
  rw [b_2 (by omega), bd_some]
  simp only [List.append_assoc, List.cons_append, List.nil_append]
end Go.Vw
