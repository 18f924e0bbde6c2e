import Derived.Test.YtfdcdeahjejlmaaGreatDoorVqP41
set_option linter.unusedVariables false
namespace Go.Vw
open Go.RowKit Dat
theorem k_t {a : x_} (h : c_u a = true) : (b_x a.log.bytes).length ≤ 20 := by
 unfold c_u at h
 simp only [aE_, dE_] at h
 exact h.2.2.1
def d_z (f : t_) : List UInt8 := a_o ⟨1, f.name, f.version, f.data⟩
theorem k_u : ∀ l : List t_, (l.flatMap d_z).length ≤ 1001 * l.length
 | [] => by simp
 | f :: l => by
  have h1 := k_s ⟨1, f.name, f.version, f.data⟩
  have h2 := k_u l
  simp only [List.flatMap_cons, List.length_append, lC_]
  unfold d_z at *
  omega
def d_A (a : x_) : x_ := if c_u a = true then ⟨a.registry, ⟨(b_x a.log.bytes).flatMap d_z, (((b_x a.log.bytes).flatMap d_z).length : Int)⟩⟩ else a
theorem m_V {ρ : Type} {l : List t_} (hl : l.length ≤ 20) {body : Nat → List UInt8 → Option (Out (List UInt8) ρ)} (hb : ∀ k (hk : k < l.length) (c : List UInt8), c.length ≤ 20020 → body k c = some (.next (c ++ d_z l[k]))) :
  u_ body l.length 0 [] = some (.inl (l.flatMap d_z)) := by
 have h := d_c (body := body) (fun k => (l.take k).flatMap d_z) (n := l.length) (s := []) rfl (fun k hk => by
  have h1 := k_u (l.take k)
  rw [List.length_take] at h1
  rw [hb k hk _ (by omega), e_B hk, List.flatMap_append]
  simp)
 rw [h, List.take_length]
theorem r_2 {a : x_} (h : SmA a) {n : Nat} (hn : 1060100 ≤ n) : f_b n a = some (d_A a) := by
 have hLIM := a_k
 unfold f_b d_A
 rw [r_0 h, bd_some, q_x h hn, bd_some]
 cases ha : c_u a with
 | false => rfl
 | true =>
  have hl := k_t ha
  simp only [nT_, bF_, fF_, fT_]
  rw [m_A h.bytes hn, bd_some]
  generalize b_x a.log.bytes = l at hl
  rw [m_V hl (fun k hk c hc => by
   have := k_s ⟨1, l[k].name, l[k].version, l[k].data⟩
   rw [ix_ hk, bd_some, m_p (by omega), bd_some, b_b (by omega), bd_some]; rfl)]
  rfl
theorem r_3 {a : x_} (h : SmA a) {n : Nat} (hn : 1060100 ≤ n) : h_a n a = some (d_A a) := by
 have hLIM := a_k
 unfold h_a d_A
 rw [r_1 h, bd_some, q_y h hn, bd_some]
 cases ha : c_u a with
 | false => rfl
 | true =>
  have hl := k_t ha
  simp only [nT_, bF_, fF_, fT_]
  rw [q_A h hn, bd_some, iP_ (q_z ha)]
  generalize b_x a.log.bytes = l at hl
  rw [m_V hl (fun k hk c hc => by
   have := k_s ⟨1, l[k].name, l[k].version, l[k].data⟩
   rw [ix_ hk, bd_some, bd_some, bd_some, k_b (by omega), bd_some, b_b (by omega), bd_some]; rfl)]
  rfl
theorem r_4 {a : x_} (h : SmA a) : SmA (d_A a) ∧ mA (d_A a) ≤ mA a + 20020 := by
 have hML := MLv
 unfold d_A
 split
 ·rename_i ha
  have h1 := k_u (b_x a.log.bytes)
  have h2 := k_t ha
  refine ⟨⟨h.len, h.each, ?_⟩, ?_⟩
  ·show ((b_x a.log.bytes).flatMap d_z).length ≤ ML
   omega
  ·unfold mA; simp only; omega
 ·exact ⟨h, Nat.le_add_right _ _⟩
theorem r_5 {n : Nat} (hn : 4000000 ≤ n) {a : x_} (ha : LnA a) : h_b n a = some true := by
 have hMX := MXv
 unfold h_b
 obtain ⟨r, hr, hr2⟩ := q_O ha
 rw [hr, bd_some]
 by_cases h2 : r < 0
 ·rw [dT_ h2]; rfl
 rw [dF_ h2]
 obtain ⟨_, hs, hb, hm⟩ := hr2.resolve_left h2
 simp only [bF_, fF_, q_Q hs hb, bd_some, r_3 hs (show 1060100 ≤ n by omega), r_2 hs (show 1060100 ≤ n by omega), q_S, nT_]
 obtain ⟨hu, hum⟩ := r_4 hs
 generalize d_A a = u at *
 have hx := m_R n a 1
 have hy := m_R n u 1
 rw [m_S hs (by omega) (by omega) (by omega)]
 simp only [bd3_some]
 rw [dF_ (by omega)]
 simp only [bF_, fF_, bd_some]
 rw [m_S hu (by omega) (by omega) (by omega)]
 simp only [bd3_some]
 have hh := q_T (a := u) (n := n) (by omega) (k := 1) (by omega) (by omega)
 have he : (⟨⟨(c_x n u 1).1.registry.versions⟩, ⟨(c_x n u 1).1.log.bytes, u.log.stored⟩⟩ : x_) = (c_x n u 1).1 := rfl
 rw [he, hh]
 simp only [bd_some, bN_, bF_, fF_]
 rw [dF_ (by omega)]
 rfl
end Go.Vw
