import Derived.Test.YtfdcdeahjejlmaaGreatDoorVwP37
import Derived.Test.YtfdcdeahjejlmaaGreatDoorVwP11
namespace Go.Vw
open Go.RowKit Dat
theorem impl_IsFileA {d : Desc} {b : List UInt8} (hd : SmD d) {n : Nat} (hn : 500 ≤ n) : M_impl_IsFileOf n d b = some (okF d b) := by
 unfold M_impl_IsFileOf okF
 rw [impl_ReadFile hd hn]; rfl
structure SmA (a : Archive) : Prop where
 len : a.registry.versions.length ≤ MX
 each : ∀ d ∈ a.registry.versions, SmD d
 bytes : a.log.bytes.length ≤ ML
def regOk (r : Registry) : Bool := decide (r.versions.length ≤ 8) && !(r.versions.any fun d => !valid d)
theorem impl_RegOk {r : Registry} (h : ∀ d ∈ r.versions, SmD d) {n : Nat} (hn : 14 ≤ n) : M_impl_IsValidRegistry n r = some (regOk r) := by
 unfold M_impl_IsValidRegistry regOk
 by_cases hl : r.versions.length ≤ 8
 ·rw [dF_ (by omega), iN_ (by simp), dT_ hl, Bool.true_and]
  rw [forN_any (fun d => !valid d) false (fun k hk => by
   rw [ix_ hk, bd_some, impl_IsValidDescription n hn _ (h _ (gE_ hk)), bd_some]
   cases valid r.versions[k] <;> rfl), bd_some]
  cases r.versions.any fun d => !valid d <;> rfl
 ·rw [dT_ (by omega), iP_ rfl, dF_ hl]; rfl
theorem spec_RegOk {r : Registry} (h : ∀ d ∈ r.versions, SmD d) : M_spec_IsValidRegistry r = some (regOk r) := by
 unfold M_spec_IsValidRegistry regOk
 rw [forN_any (fun d => !valid d) false (fun k hk => by
   rw [ix_ hk, bd_some, spec_IsValidDescription _ (h _ (gE_ hk)), bd_some]
   cases valid r.versions[k] <;> rfl), bd_some]
 cases r.versions.any fun d => !valid d
 ·simp only [bF_, fF_, el_inl, Bool.not_false, Bool.and_true]
  congr 1; rw [decide_eq_decide]; omega
 ·simp
def recBad (a : Archive) (r : Record) : Bool := r.kind == 1 && match a.registry.versions[r.version.toNat]? with
 | some d => !okF d r.data
 | none => true
def archOk (a : Archive) : Bool := regOk a.registry && (logOk a.log && (decide ((filesP a.log.bytes).length ≤ 20) && !((recP a.log.bytes).1.any (recBad a))))
theorem impl_ArchOk {a : Archive} (h : SmA a) {n : Nat} (hn : 1060100 ≤ n) : M_impl_IsValidArchive n a = some (archOk a) := by
 have hb := h.bytes
 unfold M_impl_IsValidArchive archOk
 rw [impl_RegOk (r := ⟨a.registry.versions⟩) h.each (by omega), bd_some, impl_LogOk (l := ⟨a.log.bytes, a.log.stored⟩) hb hn, impl_files hb hn, impl_Records hb hn]
 cases regOk a.registry with
 | false => rfl
 | true =>
  simp only [nT_, bF_, fF_, bd_some, Bool.true_and]
  cases logOk a.log with
  | false => rfl
  | true =>
   simp only [nT_, bF_, fF_, bd_some, Bool.true_and]
   by_cases hl : (filesP a.log.bytes).length ≤ 20
   ·rw [dF_ (by omega), iN_ (by simp), bd2_some, dT_ hl, Bool.true_and]
    have hle := recP_le _ _ (Nat.le_refl a.log.bytes.length)
    generalize (recP a.log.bytes).1 = rs at hle
    rw [forN_any (recBad a) false (fun k hk => by
     have hv := validR_facts (hle.2.2 _ (gE_ hk))
     rw [ix_ hk, bd_some]
     unfold recBad M_impl_hasVersion
     generalize rs[k] = r at hv
     cases hk1 : r.kind == 1 with
     | false => rfl
     | true =>
      simp only [fT_, Bool.true_and]
      rw [dT_ (show 0 ≤ r.version by omega), iP_ rfl, bd_some, bd_some]
      by_cases hlt : r.version.toNat < a.registry.versions.length
      ·rw [dT_ (show r.version < (a.registry.versions.length : Int) by omega), iN_ (by simp), idx_int (by omega) hlt, bd_some, impl_IsFileA (h.each _ (gE_ hlt)) (by omega), bd_some, bd_some, gG_ hlt]
       exact ite_out _ _
      ·rw [dF_ (show ¬ r.version < (a.registry.versions.length : Int) by omega), gN_ (by omega)]; rfl), bd_some]
    cases rs.any (recBad a) <;> rfl
   ·rw [dT_ (by omega), iP_ rfl, dF_ hl]; rfl
theorem spec_ArchOk {a : Archive} (h : SmA a) {n : Nat} (hn : 1060100 ≤ n) : M_spec_IsValidArchive n a = some (archOk a) := by
 have hb := h.bytes
 unfold M_spec_IsValidArchive archOk
 rw [spec_RegOk (r := ⟨a.registry.versions⟩) h.each, bd_some, spec_LogOk (l := ⟨a.log.bytes, a.log.stored⟩) hb hn, spec_files hb hn, spec_Records hb hn]
 cases regOk a.registry with
 | false => rfl
 | true =>
  simp only [nT_, bF_, fF_, bd_some, Bool.true_and]
  cases logOk a.log with
  | false => rfl
  | true =>
   simp only [nT_, bF_, fF_, bd_some, Bool.true_and]
   by_cases hl : (filesP a.log.bytes).length ≤ 20
   ·rw [dF_ (by omega), iN_ (by simp), bd2_some, dT_ hl, Bool.true_and]
    have hle := recP_le _ _ (Nat.le_refl a.log.bytes.length)
    generalize (recP a.log.bytes).1 = rs at hle
    rw [forN_any (recBad a) false (fun k hk => by
     have hv := validR_facts (hle.2.2 _ (gE_ hk))
     rw [ix_ hk]
     simp only [bd_some]
     unfold recBad
     generalize rs[k] = r at hv
     cases hk1 : r.kind == 1 with
     | false => rfl
     | true =>
      simp only [fT_, Bool.true_and]
      by_cases hlt : r.version.toNat < a.registry.versions.length
      ·rw [dF_ (show ¬ (a.registry.versions.length : Int) ≤ r.version by omega), iN_ (by simp), idx_int (by omega) hlt, bd_some, spec_IsFileOf (h.each _ (gE_ hlt)) (by omega), bd_some, bd_some, gG_ hlt]
       exact ite_out _ _
      ·rw [dT_ (show (a.registry.versions.length : Int) ≤ r.version by omega), gN_ (by omega)]; rfl), bd_some]
    cases rs.any (recBad a) <;> rfl
   ·rw [dT_ (by omega), iP_ rfl, dF_ hl]; rfl
end Go.Vw
