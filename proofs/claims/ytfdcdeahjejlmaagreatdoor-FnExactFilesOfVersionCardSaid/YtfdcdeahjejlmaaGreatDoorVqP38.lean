import Derived.Test.YtfdcdeahjejlmaaGreatDoorVqP37
import Derived.Test.YtfdcdeahjejlmaaGreatDoorVqP11
set_option linter.unusedVariables false
namespace Go.Vw
open Go.RowKit Dat
theorem p_n {d : g_} {b : List UInt8} (hd : SmD d) {n : Nat} (hn : 500 ≤ n) : g_d n d b = some (okF d b) := by
 unfold g_d okF
 rw [o_f hd hn]; rfl
structure SmA (a : D_) : Prop where
 len : a.registry.versions.length ≤ MX
 each : ∀ d ∈ a.registry.versions, SmD d
 bytes : a.log.bytes.length ≤ ML
def d_T (r : V_) : Bool := decide (r.versions.length ≤ 8) && !(r.versions.any fun d => !a_k d)
theorem p_o {r : V_} (h : ∀ d ∈ r.versions, SmD d) {n : Nat} (hn : 14 ≤ n) : g_u n r = some (d_T r) := by
 unfold g_u d_T
 by_cases hl : r.versions.length ≤ 8
 ·rw [dF_ (by omega), iN_ (by simp), dT_ hl, Bool.true_and]
  rw [c_w (fun d => !a_k d) false (fun k hk => by
   rw [ix_ hk, bd_some, l_7 n hn _ (h _ (gE_ hk)), bd_some]
   cases a_k r.versions[k] <;> rfl), bd_some]
  cases r.versions.any fun d => !a_k d <;> rfl
 ·rw [dT_ (by omega), iP_ rfl, dF_ hl]; rfl
theorem p_p {r : V_} (h : ∀ d ∈ r.versions, SmD d) : g_s r = some (d_T r) := by
 unfold g_s d_T
 rw [c_w (fun d => !a_k d) false (fun k hk => by
   rw [ix_ hk, bd_some, l_8 _ (h _ (gE_ hk)), bd_some]
   cases a_k r.versions[k] <;> rfl), bd_some]
 cases r.versions.any fun d => !a_k d
 ·simp only [bF_, fF_, el_inl, Bool.not_false, Bool.and_true]
  congr 1; rw [decide_eq_decide]; omega
 ·simp
def d_U (a : D_) (r : n_) : Bool := r.kind == 1 && match a.registry.versions[r.version.toNat]? with
 | some d => !okF d r.data
 | none => true
def b_A (a : D_) : Bool := d_T a.registry && (b_z a.log && (decide ((b_y a.log.bytes).length ≤ 20) && !((a_8 a.log.bytes).1.any (d_U a))))
theorem p_q {a : D_} (h : SmA a) {n : Nat} (hn : 1060100 ≤ n) : g_D n a = some (b_A a) := by
 have hb := h.bytes
 unfold g_D b_A
 rw [p_o (r := ⟨a.registry.versions⟩) h.each (by omega), bd_some, l_R (l := ⟨a.log.bytes, a.log.stored⟩) hb hn, l_S hb hn, l_N hb hn]
 cases d_T a.registry with
 | false => rfl
 | true =>
  simp only [nT_, bF_, fF_, bd_some, Bool.true_and]
  cases b_z a.log with
  | false => rfl
  | true =>
   simp only [nT_, bF_, fF_, bd_some, Bool.true_and]
   by_cases hl : (b_y a.log.bytes).length ≤ 20
   ·rw [dF_ (by omega), iN_ (by simp), bd2_some, dT_ hl, Bool.true_and]
    have hle := e_j _ _ (Nat.le_refl a.log.bytes.length)
    generalize (a_8 a.log.bytes).1 = rs at hle
    rw [c_w (d_U a) false (fun k hk => by
     have hv := d_R (hle.2.2 _ (gE_ hk))
     rw [ix_ hk, bd_some]
     unfold d_U h_N
     generalize rs[k] = r at hv
     cases hk1 : r.kind == 1 with
     | false => rfl
     | true =>
      simp only [fT_, Bool.true_and]
      rw [dT_ (show 0 ≤ r.version by omega), iP_ rfl, bd_some, bd_some]
      by_cases hlt : r.version.toNat < a.registry.versions.length
      ·rw [dT_ (show r.version < (a.registry.versions.length : Int) by omega), iN_ (by simp), e_o (by omega) hlt, bd_some, p_n (h.each _ (gE_ hlt)) (by omega), bd_some, bd_some, gG_ hlt]
       exact c_6 _ _
      ·rw [dF_ (show ¬ r.version < (a.registry.versions.length : Int) by omega), gN_ (by omega)]; rfl), bd_some]
    cases rs.any (d_U a) <;> rfl
   ·rw [dT_ (by omega), iP_ rfl, dF_ hl]; rfl
theorem p_r {a : D_} (h : SmA a) {n : Nat} (hn : 1060100 ≤ n) : g_t n a = some (b_A a) := by
 have hb := h.bytes
 unfold g_t b_A
 rw [p_p (r := ⟨a.registry.versions⟩) h.each, bd_some, l_P (l := ⟨a.log.bytes, a.log.stored⟩) hb hn, l_T hb hn, h_m hb hn]
 cases d_T a.registry with
 | false => rfl
 | true =>
  simp only [nT_, bF_, fF_, bd_some, Bool.true_and]
  cases b_z a.log with
  | false => rfl
  | true =>
   simp only [nT_, bF_, fF_, bd_some, Bool.true_and]
   by_cases hl : (b_y a.log.bytes).length ≤ 20
   ·rw [dF_ (by omega), iN_ (by simp), bd2_some, dT_ hl, Bool.true_and]
    have hle := e_j _ _ (Nat.le_refl a.log.bytes.length)
    generalize (a_8 a.log.bytes).1 = rs at hle
    rw [c_w (d_U a) false (fun k hk => by
     have hv := d_R (hle.2.2 _ (gE_ hk))
     rw [ix_ hk]
     simp only [bd_some]
     unfold d_U
     generalize rs[k] = r at hv
     cases hk1 : r.kind == 1 with
     | false => rfl
     | true =>
      simp only [fT_, Bool.true_and]
      by_cases hlt : r.version.toNat < a.registry.versions.length
      ·rw [dF_ (show ¬ (a.registry.versions.length : Int) ≤ r.version by omega), iN_ (by simp), e_o (by omega) hlt, bd_some, o_h (h.each _ (gE_ hlt)) (by omega), bd_some, bd_some, gG_ hlt]
       exact c_6 _ _
      ·rw [dT_ (show (a.registry.versions.length : Int) ≤ r.version by omega), gN_ (by omega)]; rfl), bd_some]
    cases rs.any (d_U a) <;> rfl
   ·rw [dT_ (by omega), iP_ rfl, dF_ hl]; rfl
def c_u (a : D_) : List p_ := if b_A a = true then b_y a.log.bytes else []
theorem l_U {a : D_} (h : b_A a = true) : b_z a.log = true := by
 unfold b_A at h
 simp only [aE_] at h
 exact h.2.1
theorem p_s {a : D_} (h : SmA a) {n : Nat} (hn : 1060100 ≤ n) : g_E n a = some (c_u a) := by
 unfold g_E h_O c_u
 rw [p_q h hn, bd_some]
 cases ha : b_A a with
 | false => rfl
 | true =>
  rw [iN_ (by simp), l_R (l := ⟨a.log.bytes, a.log.stored⟩) h.bytes hn, bd_some, show b_z ⟨a.log.bytes, a.log.stored⟩ = true from l_U ha, iN_ (by simp), l_S h.bytes hn]; rfl
theorem p_t {a : D_} (h : SmA a) {n : Nat} (hn : 1060100 ≤ n) : g_r n a = some (if b_z a.log = true then b_y a.log.bytes else []) := by
 unfold g_r
 rw [l_P (l := ⟨a.log.bytes, a.log.stored⟩) h.bytes hn, bd_some, show b_z ⟨a.log.bytes, a.log.stored⟩ = b_z a.log from rfl]
 cases b_z a.log with
 | false => rfl
 | true => rw [iN_ (by simp), l_T h.bytes hn]; rfl
theorem p_u {b : List UInt8} (hb : b.length ≤ ML) : (b_y b).length ≤ ML := by
 have h1 := h_n (a_8 b).1 (a_8 b).1.length (Nat.le_refl _)
 have h2 := e_j _ _ (Nat.le_refl b.length)
 rw [j_t] at h1
 unfold b_y; omega
end Go.Vw
