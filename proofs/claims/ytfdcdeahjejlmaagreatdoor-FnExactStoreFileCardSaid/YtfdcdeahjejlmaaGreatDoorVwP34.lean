import Derived.Test.YtfdcdeahjejlmaaGreatDoorVwP33
namespace Go.Vw
open Go.RowKit Dat
theorem shr_zero {p : Int} : shrK .i64 p 0 = p := by
 unfold shrK; rw [show (min (0 : Int).toNat IntKind.i64.bits) = 0 from rfl]; simp
theorem spec_BigEndian {p : Int} (h0 : 0 ≤ p) (h1 : p < 65536) {n : Nat} (hn : 3 ≤ n) : M_spec_BigEndian n p 2 = some [mkB (shrK .i64 p 8), mkB p] := by
 unfold M_spec_BigEndian
 have hp : M_spec_l2Power 2 = some 65536 := by unfold M_spec_l2Power; rfl
 rw [spec_l1In, hp]
 simp only [show (decide ((1 : Int) ≤ 2) && decide ((2 : Int) ≤ 4)) = true from rfl, bd_some, nT_, bF_, fF_, spec_l1In]
 rw [isub_of (by omega) (by omega), dT_ h0, dT_ (show p ≤ 65536 - 1 by omega)]
 simp only [Bool.and_self, nT_, bF_, fF_]
 obtain ⟨m, rfl⟩ : ∃ m, n = m + 3 := ⟨n - 3, by omega⟩
 have e1 : isub 2 1 = 1 := by rw [isub_of (by omega) (by omega)]; rfl
 have e2 : isub 1 1 = 0 := by rw [isub_of (by omega) (by omega)]; rfl
 have e3 : isub 0 1 = -1 := by rw [isub_of (by omega) (by omega)]; rfl
 have m1 : imul 8 1 = 8 := by rw [imul_of (by omega) (by omega)]; rfl
 have m0 : imul 8 0 = 0 := by rw [imul_of (by omega) (by omega)]; rfl
 have hLIM := LIMv
 rw [e1]
 unfold iter
 simp only [un2, show decide ((0 : Int) ≤ 1) = true from rfl, fT_, m1, show nn 8 = some () from rfl, bd_some]
 rw [psh_of (by simp [hLIM]), bd_some, e2]
 unfold iter
 simp only [un2, show decide ((0 : Int) ≤ 0) = true from rfl, fT_, m0, show nn 0 = some () from rfl, bd_some]
 rw [psh_of (by simp; omega), bd_some, e3]
 unfold iter
 simp only [un2, show decide ((0 : Int) ≤ -1) = false from rfl, bF_, fF_]
 rw [bd_some, el_inl, shr_zero]; rfl
theorem impl_IsValidRecord {n : Nat} (hn : 14 ≤ n) (r : Record) : M_impl_IsValidRecord n r = some (validR r) := by
 unfold M_impl_IsValidRecord validR
 rw [impl_IsName n hn, impl_InRange]
 simp only [bd_some]
 cases nameOk r.name with
 | false => rfl
 | true =>
  simp only [nT_, bF_, fF_, Bool.true_and]
  cases (decide (0 ≤ r.version) && decide (r.version ≤ 7)) with
  | false => rfl
  | true =>
   simp only [nT_, bF_, fF_, Bool.true_and, bd_some]
   by_cases hd : r.data.length ≤ 400
   ·rw [dF_ (show ¬ (400 : Int) < (r.data.length : Int) by omega), dT_ hd]
    simp only [bF_, fF_, Bool.true_and]
    cases h1 : r.kind == 1 with
    | true => rfl
    | false =>
     cases h2 : r.kind == 2 with
     | false => rfl
     | true =>
      cases h3 : r.version == 0 with
      | false => rfl
      | true =>
       simp only [bF_, fF_, fT_, bd_some, Bool.false_or, Bool.true_and]
       congr 1
       rw [Bool.eq_iff_iff, beq_iff_eq, beq_iff_eq]; omega
   ·rw [dT_ (show (400 : Int) < (r.data.length : Int) by omega), dF_ hd]; rfl
theorem spec_IsValidRecord (r : Record) : M_spec_IsValidRecord r = some (validR r) := by
 unfold M_spec_IsValidRecord validR
 rw [spec_l1In, spec_IsName, spec_l1In]
 simp only [bd_some]
 cases hk : (decide (1 ≤ r.kind) && decide (r.kind ≤ 2)) with
 | false =>
  simp only [bF_, fF_, bd_some]
  congr 1
  symm
  have h1 : (r.kind == 1) = false := by rw [beq_eq_false_iff_ne]; rintro h; rw [h] at hk; simp at hk
  have h2 : (r.kind == 2) = false := by rw [beq_eq_false_iff_ne]; rintro h; rw [h] at hk; simp at hk
  rw [h1, h2]; simp
 | true =>
  simp only [fT_]
  cases nameOk r.name with
  | false => rfl
  | true =>
   simp only [fT_, Bool.true_and]
   cases (decide (0 ≤ r.version) && decide (r.version ≤ 7)) with
   | false => rfl
   | true =>
    simp only [fT_, Bool.true_and]
    by_cases hd : r.data.length ≤ 400
    ·rw [dT_ (show (r.data.length : Int) ≤ 400 by omega), dT_ hd]
     simp only [fT_, Bool.true_and]
     cases h1 : r.kind == 1 with
     | true => rfl
     | false =>
      have h2 : (r.kind == 2) = true := by
       simp only [aE_, dE_] at hk
       have : r.kind ≠ 1 := by simpa using h1
       rw [beq_iff_eq]; omega
      rw [h2]
      cases h3 : r.version == 0 with
      | false => rfl
      | true =>
       simp only [bF_, fF_, fT_, bd_some, Bool.false_or, Bool.true_and]
       congr 1
       rw [Bool.eq_iff_iff, beq_iff_eq, beq_iff_eq]; omega
    ·rw [dF_ (show ¬ (r.data.length : Int) ≤ 400 by omega), dF_ hd]; rfl
theorem bodyR_len {r : Record} (h : validR r = true) : (bodyR r).length ≤ 1000 := by
 obtain ⟨h1, _, _, _, _, _, h2⟩ := validR_facts h
 simp only [bodyR, List.length_append, lC_, List.length_nil]; omega
theorem impl_Encode {n : Nat} (hn : 500 ≤ n) (r : Record) : M_impl_EncodeRecord n r = some (encP r) := by
 have hML := MLv; have hMX := MXv; have hLIM := LIMv
 unfold M_impl_EncodeRecord encP
 rw [impl_IsValidRecord (by omega), bd_some]
 cases hv : validR r with
 | false => rfl
 | true =>
  obtain ⟨h1, _, _, h4, _, _, h7⟩ := validR_facts hv
  have hb := bodyR_len hv
  simp only [nT_, bF_, fF_, fT_]
  have hb' := hb
  unfold bodyR at hb hb' ⊢
  simp only [List.length_append, lC_, List.length_nil] at hb
  rw [impl_Pack (by omega) (by omega), bd_some, app_of (by simp only [lC_, List.length_nil]; omega), bd_some, app_of (by simp only [List.length_append, lC_, List.length_nil]; omega), bd_some, app_of (by simp only [List.length_append, lC_, List.length_nil]; omega), bd_some, impl_SumOfBytes _ (by omega), bd_some, psh_of (by omega), bd_some]
theorem spec_Encode {n : Nat} (hn : 500 ≤ n) (r : Record) : M_spec_EncodeRecord n r = some (encP r) := by
 have hML := MLv; have hMX := MXv; have hLIM := LIMv
 unfold M_spec_EncodeRecord encP
 rw [spec_IsValidRecord, bd_some]
 cases hv : validR r with
 | false => rfl
 | true =>
  obtain ⟨h1, _, _, h4, _, _, h7⟩ := validR_facts hv
  have hb := bodyR_len hv
  simp only [nT_, bF_, fF_, fT_]
  have hb' := hb
  unfold bodyR at hb hb' ⊢
  simp only [List.length_append, lC_, List.length_nil] at hb
  rw [spec_Pack (by omega) (by omega), bd_some, app_of (by simp only [lC_, List.length_nil]; omega), bd_some, psh_of (by simp only [List.length_append, lC_, List.length_nil]; omega), bd_some, spec_BigEndian (by omega) (by omega) (by omega), bd_some, app_of (by simp only [List.length_append, lC_, List.length_nil]; omega), bd_some, app_of (by simp only [List.length_append, lC_, List.length_nil]; omega), bd_some, spec_SumOfBytes, bd_some]
  simp only [List.append_assoc, List.cons_append, List.nil_append] at hb' ⊢
  rw [psh_of (by omega), bd_some]
  simp only [List.append_assoc, List.cons_append, List.nil_append]
end Go.Vw
