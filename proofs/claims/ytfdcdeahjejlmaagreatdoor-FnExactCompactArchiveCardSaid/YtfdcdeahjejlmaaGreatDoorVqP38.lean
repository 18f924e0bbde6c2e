import Derived.Test.YtfdcdeahjejlmaaGreatDoorVqP37
import Derived.Test.YtfdcdeahjejlmaaGreatDoorVqP11
set_option linter.unusedVariables false
namespace Go.Vw
open Go.RowKit Dat
theorem q_u {d : g_} {b : List UInt8} (hd : SmD d) {n : Nat} (hn : 500 ≤ n) : g_x n d b = some (okF d b) := by
 unfold g_x okF
 rw [p_k hd hn]; rfl
structure SmA (a : x_) : Prop where
 len : a.registry.versions.length ≤ MX
 each : ∀ d ∈ a.registry.versions, SmD d
 bytes : a.log.bytes.length ≤ ML
def e_3 (r : C_) : Bool := decide (r.versions.length ≤ 8) && !(r.versions.any fun d => !a_u d)
theorem q_v {r : C_} (h : ∀ d ∈ r.versions, SmD d) {n : Nat} (hn : 14 ≤ n) : g_Q n r = some (e_3 r) := by
 unfold g_Q e_3
 by_cases hl : r.versions.length ≤ 8
 ·rw [dF_ (by omega), iN_ (by simp), dT_ hl, Bool.true_and]
  rw [c_P (fun d => !a_u d) false (fun k hk => by
   rw [ix_ hk, bd_some, l_Q n hn _ (h _ (gE_ hk)), bd_some]
   cases a_u r.versions[k] <;> rfl), bd_some]
  cases r.versions.any fun d => !a_u d <;> rfl
 ·rw [dT_ (by omega), iP_ rfl, dF_ hl]; rfl
theorem q_w {r : C_} (h : ∀ d ∈ r.versions, SmD d) : g_O r = some (e_3 r) := by
 unfold g_O e_3
 rw [c_P (fun d => !a_u d) false (fun k hk => by
   rw [ix_ hk, bd_some, l_R _ (h _ (gE_ hk)), bd_some]
   cases a_u r.versions[k] <;> rfl), bd_some]
 cases r.versions.any fun d => !a_u d
 ·simp only [bF_, fF_, el_inl, Bool.not_false, Bool.and_true]
  congr 1; rw [decide_eq_decide]; omega
 ·simp
def e_4 (a : x_) (r : p_) : Bool := r.kind == 1 && match a.registry.versions[r.version.toNat]? with
 | some d => !okF d r.data
 | none => true
def c_u (a : x_) : Bool := e_3 a.registry && (c_b a.log && (decide ((b_x a.log.bytes).length ≤ 20) && !((a_i a.log.bytes).1.any (e_4 a))))
theorem q_x {a : x_} (h : SmA a) {n : Nat} (hn : 1060100 ≤ n) : g_X n a = some (c_u a) := by
 have hb := h.bytes
 unfold g_X c_u
 rw [q_v (r := ⟨a.registry.versions⟩) h.each (by omega), bd_some, q_q (l := ⟨a.log.bytes, a.log.stored⟩) hb hn, m_A hb hn, m_v hb hn]
 cases e_3 a.registry with
 | false => rfl
 | true =>
  simp only [nT_, bF_, fF_, bd_some, Bool.true_and]
  cases c_b a.log with
  | false => rfl
  | true =>
   simp only [nT_, bF_, fF_, bd_some, Bool.true_and]
   by_cases hl : (b_x a.log.bytes).length ≤ 20
   ·rw [dF_ (by omega), iN_ (by simp), bd2_some, dT_ hl, Bool.true_and]
    have hle := f_I _ _ (Nat.le_refl a.log.bytes.length)
    generalize (a_i a.log.bytes).1 = rs at hle
    rw [c_P (e_4 a) false (fun k hk => by
     have hv := e_1 (hle.2.2 _ (gE_ hk))
     rw [ix_ hk, bd_some]
     unfold e_4 i_o
     generalize rs[k] = r at hv
     cases hk1 : r.kind == 1 with
     | false => rfl
     | true =>
      simp only [fT_, Bool.true_and]
      rw [dT_ (show 0 ≤ r.version by omega), iP_ rfl, bd_some, bd_some]
      by_cases hlt : r.version.toNat < a.registry.versions.length
      ·rw [dT_ (show r.version < (a.registry.versions.length : Int) by omega), iN_ (by simp), e_F (by omega) hlt, bd_some, q_u (h.each _ (gE_ hlt)) (by omega), bd_some, bd_some, gG_ hlt]
       exact c_n _ _
      ·rw [dF_ (show ¬ r.version < (a.registry.versions.length : Int) by omega), gN_ (by omega)]; rfl), bd_some]
    cases rs.any (e_4 a) <;> rfl
   ·rw [dT_ (by omega), iP_ rfl, dF_ hl]; rfl
theorem q_y {a : x_} (h : SmA a) {n : Nat} (hn : 1060100 ≤ n) : g_P n a = some (c_u a) := by
 have hb := h.bytes
 unfold g_P c_u
 rw [q_w (r := ⟨a.registry.versions⟩) h.each, bd_some, m_x (l := ⟨a.log.bytes, a.log.stored⟩) hb hn, m_B hb hn, h_X hb hn]
 cases e_3 a.registry with
 | false => rfl
 | true =>
  simp only [nT_, bF_, fF_, bd_some, Bool.true_and]
  cases c_b a.log with
  | false => rfl
  | true =>
   simp only [nT_, bF_, fF_, bd_some, Bool.true_and]
   by_cases hl : (b_x a.log.bytes).length ≤ 20
   ·rw [dF_ (by omega), iN_ (by simp), bd2_some, dT_ hl, Bool.true_and]
    have hle := f_I _ _ (Nat.le_refl a.log.bytes.length)
    generalize (a_i a.log.bytes).1 = rs at hle
    rw [c_P (e_4 a) false (fun k hk => by
     have hv := e_1 (hle.2.2 _ (gE_ hk))
     rw [ix_ hk]
     simp only [bd_some]
     unfold e_4
     generalize rs[k] = r at hv
     cases hk1 : r.kind == 1 with
     | false => rfl
     | true =>
      simp only [fT_, Bool.true_and]
      by_cases hlt : r.version.toNat < a.registry.versions.length
      ·rw [dF_ (show ¬ (a.registry.versions.length : Int) ≤ r.version by omega), iN_ (by simp), e_F (by omega) hlt, bd_some, p_m (h.each _ (gE_ hlt)) (by omega), bd_some, bd_some, gG_ hlt]
       exact c_n _ _
      ·rw [dT_ (show (a.registry.versions.length : Int) ≤ r.version by omega), gN_ (by omega)]; rfl), bd_some]
    cases rs.any (e_4 a) <;> rfl
   ·rw [dT_ (by omega), iP_ rfl, dF_ hl]; rfl
theorem q_z {a : x_} (h : c_u a = true) : c_b a.log = true := by
 unfold c_u at h
 simp only [aE_] at h
 exact h.2.1
theorem q_A {a : x_} (h : SmA a) {n : Nat} (hn : 1060100 ≤ n) : g_N n a = some (if c_b a.log = true then b_x a.log.bytes else []) := by
 unfold g_N
 rw [m_x (l := ⟨a.log.bytes, a.log.stored⟩) h.bytes hn, bd_some, show c_b ⟨a.log.bytes, a.log.stored⟩ = c_b a.log from rfl]
 cases c_b a.log with
 | false => rfl
 | true => rw [iN_ (by simp), m_B h.bytes hn]; rfl
end Go.Vw
