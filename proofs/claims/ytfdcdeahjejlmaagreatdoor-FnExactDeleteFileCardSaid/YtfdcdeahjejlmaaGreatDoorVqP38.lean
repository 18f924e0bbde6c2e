import Derived.Test.YtfdcdeahjejlmaaGreatDoorVqP37
import Derived.Test.YtfdcdeahjejlmaaGreatDoorVqP11
set_option linter.unusedVariables false
namespace Go.Vw
open Go.RowKit Dat
theorem q_B {d : g_} {b : List UInt8} (hd : SmD d) {n : Nat} (hn : 500 ≤ n) : g_B n d b = some (okF d b) := by
 unfold g_B okF
 rw [p_u hd hn]; rfl
structure SmA (a : w_) : Prop where
 len : a.registry.versions.length ≤ MX
 each : ∀ d ∈ a.registry.versions, SmD d
 bytes : a.log.bytes.length ≤ ML
def e_3 (r : B_) : Bool := decide (r.versions.length ≤ 8) && !(r.versions.any fun d => !a_C d)
theorem q_C {r : B_} (h : ∀ d ∈ r.versions, SmD d) {n : Nat} (hn : 14 ≤ n) : g_T n r = some (e_3 r) := by
 unfold g_T e_3
 by_cases hl : r.versions.length ≤ 8
 ·rw [dF_ (by omega), iN_ (by simp), dT_ hl, Bool.true_and]
  rw [c_R (fun d => !a_C d) false (fun k hk => by
   rw [ix_ hk, bd_some, m_0 n hn _ (h _ (gE_ hk)), bd_some]
   cases a_C r.versions[k] <;> rfl), bd_some]
  cases r.versions.any fun d => !a_C d <;> rfl
 ·rw [dT_ (by omega), iP_ rfl, dF_ hl]; rfl
theorem q_D {r : B_} (h : ∀ d ∈ r.versions, SmD d) : g_R r = some (e_3 r) := by
 unfold g_R e_3
 rw [c_R (fun d => !a_C d) false (fun k hk => by
   rw [ix_ hk, bd_some, m_1 _ (h _ (gE_ hk)), bd_some]
   cases a_C r.versions[k] <;> rfl), bd_some]
 cases r.versions.any fun d => !a_C d
 ·simp only [bF_, fF_, el_inl, Bool.not_false, Bool.and_true]
  congr 1; rw [decide_eq_decide]; omega
 ·simp
def e_4 (a : w_) (r : o_) : Bool := r.kind == 1 && match a.registry.versions[r.version.toNat]? with
 | some d => !okF d r.data
 | none => true
def d_e (a : w_) : Bool := e_3 a.registry && (b_o a.log && (decide ((b_R a.log.bytes).length ≤ 20) && !((a_j a.log.bytes).1.any (e_4 a))))
theorem q_E {a : w_} (h : SmA a) {n : Nat} (hn : 1060100 ≤ n) : h_1 n a = some (d_e a) := by
 have hb := h.bytes
 unfold h_1 d_e
 rw [q_C (r := ⟨a.registry.versions⟩) h.each (by omega), bd_some, m_I (l := ⟨a.log.bytes, a.log.stored⟩) hb hn, m_K hb hn, m_F hb hn]
 cases e_3 a.registry with
 | false => rfl
 | true =>
  simp only [nT_, bF_, fF_, bd_some, Bool.true_and]
  cases b_o a.log with
  | false => rfl
  | true =>
   simp only [nT_, bF_, fF_, bd_some, Bool.true_and]
   by_cases hl : (b_R a.log.bytes).length ≤ 20
   ·rw [dF_ (by omega), iN_ (by simp), bd2_some, dT_ hl, Bool.true_and]
    have hle := f_M _ _ (Nat.le_refl a.log.bytes.length)
    generalize (a_j a.log.bytes).1 = rs at hle
    rw [c_R (e_4 a) false (fun k hk => by
     have hv := e_1 (hle.2.2 _ (gE_ hk))
     rw [ix_ hk, bd_some]
     unfold e_4 i_w
     generalize rs[k] = r at hv
     cases hk1 : r.kind == 1 with
     | false => rfl
     | true =>
      simp only [fT_, Bool.true_and]
      rw [dT_ (show 0 ≤ r.version by omega), iP_ rfl, bd_some, bd_some]
      by_cases hlt : r.version.toNat < a.registry.versions.length
      ·rw [dT_ (show r.version < (a.registry.versions.length : Int) by omega), iN_ (by simp), e_I (by omega) hlt, bd_some, q_B (h.each _ (gE_ hlt)) (by omega), bd_some, bd_some, gG_ hlt]
       exact c_o _ _
      ·rw [dF_ (show ¬ r.version < (a.registry.versions.length : Int) by omega), gN_ (by omega)]; rfl), bd_some]
    cases rs.any (e_4 a) <;> rfl
   ·rw [dT_ (by omega), iP_ rfl, dF_ hl]; rfl
theorem q_F {a : w_} (h : SmA a) {n : Nat} (hn : 1060100 ≤ n) : g_S n a = some (d_e a) := by
 have hb := h.bytes
 unfold g_S d_e
 rw [q_D (r := ⟨a.registry.versions⟩) h.each, bd_some, k_q (l := ⟨a.log.bytes, a.log.stored⟩) hb hn, m_L hb hn, i_5 hb hn]
 cases e_3 a.registry with
 | false => rfl
 | true =>
  simp only [nT_, bF_, fF_, bd_some, Bool.true_and]
  cases b_o a.log with
  | false => rfl
  | true =>
   simp only [nT_, bF_, fF_, bd_some, Bool.true_and]
   by_cases hl : (b_R a.log.bytes).length ≤ 20
   ·rw [dF_ (by omega), iN_ (by simp), bd2_some, dT_ hl, Bool.true_and]
    have hle := f_M _ _ (Nat.le_refl a.log.bytes.length)
    generalize (a_j a.log.bytes).1 = rs at hle
    rw [c_R (e_4 a) false (fun k hk => by
     have hv := e_1 (hle.2.2 _ (gE_ hk))
     rw [ix_ hk]
     simp only [bd_some]
     unfold e_4
     generalize rs[k] = r at hv
     cases hk1 : r.kind == 1 with
     | false => rfl
     | true =>
      simp only [fT_, Bool.true_and]
      by_cases hlt : r.version.toNat < a.registry.versions.length
      ·rw [dF_ (show ¬ (a.registry.versions.length : Int) ≤ r.version by omega), iN_ (by simp), e_I (by omega) hlt, bd_some, p_w (h.each _ (gE_ hlt)) (by omega), bd_some, bd_some, gG_ hlt]
       exact c_o _ _
      ·rw [dT_ (show (a.registry.versions.length : Int) ≤ r.version by omega), gN_ (by omega)]; rfl), bd_some]
    cases rs.any (e_4 a) <;> rfl
   ·rw [dT_ (by omega), iP_ rfl, dF_ hl]; rfl
theorem k_u {a : w_} (h : d_e a = true) : b_o a.log = true := by
 unfold d_e at h
 simp only [aE_] at h
 exact h.2.1
theorem q_G {a : w_} (h : SmA a) {n : Nat} (hn : 1060100 ≤ n) : g_Q n a = some (if b_o a.log = true then b_R a.log.bytes else []) := by
 unfold g_Q
 rw [k_q (l := ⟨a.log.bytes, a.log.stored⟩) h.bytes hn, bd_some, show b_o ⟨a.log.bytes, a.log.stored⟩ = b_o a.log from rfl]
 cases b_o a.log with
 | false => rfl
 | true => rw [iN_ (by simp), m_L h.bytes hn]; rfl
end Go.Vw
