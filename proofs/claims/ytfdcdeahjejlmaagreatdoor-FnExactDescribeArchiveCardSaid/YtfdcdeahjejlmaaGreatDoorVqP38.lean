import Derived.Test.YtfdcdeahjejlmaaGreatDoorVqP37
import Derived.Test.YtfdcdeahjejlmaaGreatDoorVqP11
set_option linter.unusedVariables false
namespace Go.Vw
open Go.RowKit Dat
theorem q_C {d : g_} {b : List UInt8} (hd : SmD d) {n : Nat} (hn : 500 ≤ n) : g_r n d b = some (okF d b) := by
 unfold g_r okF
 rw [p_t hd hn]; rfl
structure SmA (a : C_) : Prop where
 len : a.registry.versions.length ≤ MX
 each : ∀ d ∈ a.registry.versions, SmD d
 bytes : a.log.bytes.length ≤ ML
def e_3 (r : V_) : Bool := decide (r.versions.length ≤ 8) && !(r.versions.any fun d => !a_m d)
theorem q_D {r : V_} (h : ∀ d ∈ r.versions, SmD d) {n : Nat} (hn : 14 ≤ n) : g_G n r = some (e_3 r) := by
 unfold g_G e_3
 by_cases hl : r.versions.length ≤ 8
 ·rw [dF_ (by omega), iN_ (by simp), dT_ hl, Bool.true_and]
  rw [c_N (fun d => !a_m d) false (fun k hk => by
   rw [ix_ hk, bd_some, l_E n hn _ (h _ (gE_ hk)), bd_some]
   cases a_m r.versions[k] <;> rfl), bd_some]
  cases r.versions.any fun d => !a_m d <;> rfl
 ·rw [dT_ (by omega), iP_ rfl, dF_ hl]; rfl
theorem q_E {r : V_} (h : ∀ d ∈ r.versions, SmD d) : g_F r = some (e_3 r) := by
 unfold g_F e_3
 rw [c_N (fun d => !a_m d) false (fun k hk => by
   rw [ix_ hk, bd_some, l_F _ (h _ (gE_ hk)), bd_some]
   cases a_m r.versions[k] <;> rfl), bd_some]
 cases r.versions.any fun d => !a_m d
 ·simp only [bF_, fF_, el_inl, Bool.not_false, Bool.and_true]
  congr 1; rw [decide_eq_decide]; omega
 ·simp
def e_4 (a : C_) (r : o_) : Bool := r.kind == 1 && match a.registry.versions[r.version.toNat]? with
 | some d => !okF d r.data
 | none => true
def b_a (a : C_) : Bool := e_3 a.registry && (b_u a.log && (decide ((b_g a.log.bytes).length ≤ 20) && !((a_a a.log.bytes).1.any (e_4 a))))
theorem q_F {a : C_} (h : SmA a) {n : Nat} (hn : 1060100 ≤ n) : g_P n a = some (b_a a) := by
 have hb := h.bytes
 unfold g_P b_a
 rw [q_D (r := ⟨a.registry.versions⟩) h.each (by omega), bd_some, m_o (l := ⟨a.log.bytes, a.log.stored⟩) hb hn, m_p hb hn, m_k hb hn]
 cases e_3 a.registry with
 | false => rfl
 | true =>
  simp only [nT_, bF_, fF_, bd_some, Bool.true_and]
  cases b_u a.log with
  | false => rfl
  | true =>
   simp only [nT_, bF_, fF_, bd_some, Bool.true_and]
   by_cases hl : (b_g a.log.bytes).length ≤ 20
   ·rw [dF_ (by omega), iN_ (by simp), bd2_some, dT_ hl, Bool.true_and]
    have hle := e_1 _ _ (Nat.le_refl a.log.bytes.length)
    generalize (a_a a.log.bytes).1 = rs at hle
    rw [c_N (e_4 a) false (fun k hk => by
     have hv := d_x (hle.2.2 _ (gE_ hk))
     rw [ix_ hk, bd_some]
     unfold e_4 i_8
     generalize rs[k] = r at hv
     cases hk1 : r.kind == 1 with
     | false => rfl
     | true =>
      simp only [fT_, Bool.true_and]
      rw [dT_ (show 0 ≤ r.version by omega), iP_ rfl, bd_some, bd_some]
      by_cases hlt : r.version.toNat < a.registry.versions.length
      ·rw [dT_ (show r.version < (a.registry.versions.length : Int) by omega), iN_ (by simp), e_C (by omega) hlt, bd_some, q_C (h.each _ (gE_ hlt)) (by omega), bd_some, bd_some, gG_ hlt]
       exact c_d _ _
      ·rw [dF_ (show ¬ r.version < (a.registry.versions.length : Int) by omega), gN_ (by omega)]; rfl), bd_some]
    cases rs.any (e_4 a) <;> rfl
   ·rw [dT_ (by omega), iP_ rfl, dF_ hl]; rfl
theorem m_r {a : C_} (h : SmA a) {n : Nat} (hn : 1060100 ≤ n) : f_3 n a = some (b_a a) := by
 have hb := h.bytes
 unfold f_3 b_a
 rw [q_E (r := ⟨a.registry.versions⟩) h.each, bd_some, m_m (l := ⟨a.log.bytes, a.log.stored⟩) hb hn, m_q hb hn, h_G hb hn]
 cases e_3 a.registry with
 | false => rfl
 | true =>
  simp only [nT_, bF_, fF_, bd_some, Bool.true_and]
  cases b_u a.log with
  | false => rfl
  | true =>
   simp only [nT_, bF_, fF_, bd_some, Bool.true_and]
   by_cases hl : (b_g a.log.bytes).length ≤ 20
   ·rw [dF_ (by omega), iN_ (by simp), bd2_some, dT_ hl, Bool.true_and]
    have hle := e_1 _ _ (Nat.le_refl a.log.bytes.length)
    generalize (a_a a.log.bytes).1 = rs at hle
    rw [c_N (e_4 a) false (fun k hk => by
     have hv := d_x (hle.2.2 _ (gE_ hk))
     rw [ix_ hk]
     simp only [bd_some]
     unfold e_4
     generalize rs[k] = r at hv
     cases hk1 : r.kind == 1 with
     | false => rfl
     | true =>
      simp only [fT_, Bool.true_and]
      by_cases hlt : r.version.toNat < a.registry.versions.length
      ·rw [dF_ (show ¬ (a.registry.versions.length : Int) ≤ r.version by omega), iN_ (by simp), e_C (by omega) hlt, bd_some, p_w (h.each _ (gE_ hlt)) (by omega), bd_some, bd_some, gG_ hlt]
       exact c_d _ _
      ·rw [dT_ (show (a.registry.versions.length : Int) ≤ r.version by omega), gN_ (by omega)]; rfl), bd_some]
    cases rs.any (e_4 a) <;> rfl
   ·rw [dT_ (by omega), iP_ rfl, dF_ hl]; rfl
def b_b (a : C_) : List n_ := if b_a a = true then b_g a.log.bytes else []
theorem k_9 {a : C_} (h : b_a a = true) : b_u a.log = true := by
 unfold b_a at h
 simp only [aE_] at h
 exact h.2.1
theorem m_s {a : C_} (h : SmA a) {n : Nat} (hn : 1060100 ≤ n) : f_7 n a = some (b_b a) := by
 unfold f_7 i_9 b_b
 rw [q_F h hn, bd_some]
 cases ha : b_a a with
 | false => rfl
 | true =>
  rw [iN_ (by simp), m_o (l := ⟨a.log.bytes, a.log.stored⟩) h.bytes hn, bd_some, show b_u ⟨a.log.bytes, a.log.stored⟩ = true from k_9 ha, iN_ (by simp), m_p h.bytes hn]; rfl
theorem m_t {a : C_} (h : SmA a) {n : Nat} (hn : 1060100 ≤ n) : f_2 n a = some (if b_u a.log = true then b_g a.log.bytes else []) := by
 unfold f_2
 rw [m_m (l := ⟨a.log.bytes, a.log.stored⟩) h.bytes hn, bd_some, show b_u ⟨a.log.bytes, a.log.stored⟩ = b_u a.log from rfl]
 cases b_u a.log with
 | false => rfl
 | true => rw [iN_ (by simp), m_q h.bytes hn]; rfl
theorem m_u {b : List UInt8} (hb : b.length ≤ ML) : (b_g b).length ≤ ML := by
 have h1 := h_H (a_a b).1 (a_a b).1.length (Nat.le_refl _)
 have h2 := e_1 _ _ (Nat.le_refl b.length)
 rw [k_8] at h1
 unfold b_g; omega
end Go.Vw
