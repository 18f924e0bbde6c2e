import Derived.Test.YtfdcdeahjejlmaaGreatDoorVqP41
set_option linter.unusedVariables false
namespace Go.Vw
open Go.RowKit Dat
def c_Q (l : List s_) (nm : Str) : Int := match l.findIdx? (fun f => f.name.b == nm.b) with | some k => (k : Int) | none => -1
theorem r_9 (l : List s_) (nm : Str) : h_f l nm = some (c_Q l nm) := by
 unfold h_f c_Q
 rw [e_6 (fun k => if hk : k < l.length then l[k].name.b == nm.b else false) (fun k => (k : Int)) (fun k hk _ => by
  rw [ix_ hk, bd_some, dif_pos hk]
  cases (l[k].name.b == nm.b) <;> rfl)]
 rw [k_r l (fun f => f.name.b == nm.b) _ (fun k hk => by rw [dif_pos hk])]
 cases l.findIdx? (fun f => f.name.b == nm.b) <;> rfl
theorem r_a (l : List s_) (nm : Str) : h_h l nm = some (c_Q l nm) := by
 unfold h_h i_D c_Q
 rw [e_6 (fun k => if hk : k < l.length then l[k].name.b == nm.b else false) (fun k => (k : Int)) (fun k hk _ => by
  rw [ix_ hk, bd_some, bd_some, dif_pos hk]
  cases (l[k].name.b == nm.b) <;> rfl)]
 rw [k_r l (fun f => f.name.b == nm.b) _ (fun k hk => by rw [dif_pos hk])]
 cases l.findIdx? (fun f => f.name.b == nm.b) <;> rfl
theorem r_b {a : w_} (h : SmA a) (nm : Str) {n : Nat} (hn : 1060100 ≤ n) : ∃ f, h_j n a nm = some (f, !decide (c_Q (b_R a.log.bytes) nm < 0)) := by
 unfold h_j
 rw [m_K h.bytes hn, bd_some, r_a, bd_some]
 generalize b_R a.log.bytes = l
 by_cases hw : c_Q l nm < 0
 ·rw [dT_ hw]; exact ⟨_, rfl⟩
 ·rw [dF_ hw]
  simp only [bF_, fF_]
  unfold c_Q at *
  cases hf : l.findIdx? (fun f => f.name.b == nm.b) with
  | none => rw [hf] at hw; exact absurd (show (-1 : Int) < 0 by decide) hw
  | some k =>
   have hk : k < l.length := by
    have := List.findIdx?_eq_some_iff_getElem.1 hf
    exact this.1
   simp only
   rw [ix_ hk, bd_some]
   exact ⟨_, rfl⟩
def d_D (a : w_) (nm : Str) : w_ × Bool := if (d_e a && (!decide (c_Q (b_R a.log.bytes) nm < 0) && a_s ⟨2, nm, 0, []⟩)) = true then (putA a ⟨2, nm, 0, []⟩, true) else (a, false)
theorem r_c {a : w_} (h : SmA a) (nm : Str) {n : Nat} (hn : 1060100 ≤ n) : f_e n a nm = some (d_D a nm) := by
 unfold f_e d_D
 rw [r_4 h, bd_some, q_E h hn, bd_some]
 cases ha : d_e a with
 | false => rfl
 | true =>
  obtain ⟨f, hf⟩ := r_b h nm hn
  simp only [nT_, bF_, fF_, Bool.true_and]
  rw [hf, bd2_some]
  cases !decide (c_Q (b_R a.log.bytes) nm < 0) with
  | false => rfl
  | true =>
   simp only [nT_, bF_, fF_, Bool.true_and]
   refine (congrArg (fun z => bd2 z _) (r_6 (l := ⟨a.log.bytes, a.log.stored⟩) h.bytes _ hn)).trans ?_
   unfold e_G
   rw [show b_o ⟨a.log.bytes, a.log.stored⟩ = true from k_u ha, Bool.and_true]
   cases a_s ⟨2, nm, 0, []⟩ <;> rfl
theorem r_d {a : w_} (h : SmA a) (nm : Str) {n : Nat} (hn : 1060100 ≤ n) : h_g n a nm = some (d_D a nm) := by
 unfold h_g d_D
 rw [r_5 h, bd_some, q_F h hn]
 cases ha : d_e a with
 | false => rfl
 | true =>
  simp only [bd_some, nT_, bF_, fF_, Bool.true_and]
  rw [q_G h hn, bd_some, iP_ (k_u ha), r_9, bd_some]
  cases decide (c_Q (b_R a.log.bytes) nm < 0) with
  | true => rfl
  | false =>
   simp only [bd_some, Bool.not_false, bF_, fF_, Bool.true_and]
   refine (congrArg (fun z => bd2 z _) (r_7 (l := ⟨a.log.bytes, a.log.stored⟩) h.bytes _ hn)).trans ?_
   unfold e_G
   rw [show b_o ⟨a.log.bytes, a.log.stored⟩ = true from k_u ha, Bool.and_true]
   cases a_s ⟨2, nm, 0, []⟩ <;> rfl
theorem r_e {a : w_} (h : SmA a) (hb : a.log.bytes.length ≤ MX) (nm : Str) : SmA (d_D a nm).1 ∧ mA (d_D a nm).1 ≤ mA a + 1001 := by
 have he := i_g ⟨2, nm, 0, []⟩
 unfold d_D
 split
 ·refine ⟨r_8 h hb _, ?_⟩
  unfold mA putA; simp only [List.length_append]; omega
 ·exact ⟨h, by show mA a ≤ mA a + 1001; omega⟩
theorem r_f {n : Nat} (hn : 4000000 ≤ n) {a : w_} {nm : Str} (ha : LnA a) : h_k n a nm = some true := by
 have hMX := MXv
 unfold h_k
 by_cases h1 : (1048576 : Int) < (nm.b.length : Int)
 ·rw [dT_ h1]; rfl
 rw [dF_ h1]
 simp only [bF_, fF_]
 obtain ⟨r, hr, hr2⟩ := q_U ha
 rw [hr, bd_some]
 by_cases h2 : r < 0
 ·rw [dT_ h2]; rfl
 rw [dF_ h2]
 obtain ⟨_, hs, hb, hm⟩ := hr2.resolve_left h2
 simp only [bF_, fF_, q_W hs hb, bd_some, r_d hs _ (show 1060100 ≤ n by omega), r_c hs _ (show 1060100 ≤ n by omega), n_1, bd2_some, nT_, bN_]
 obtain ⟨hu, hum⟩ := r_e hs hb nm
 generalize d_D a nm = u at *
 obtain ⟨u, ok⟩ := u
 simp only [bd2_some, n_1, bd_some, nT_, bF_, fF_, bN_] at hu hum ⊢
 have hx := n_2 n a 1
 have hy := n_2 n u 1
 rw [n_3 hs (by omega) (by omega) (by omega)]
 simp only [bd3_some]
 rw [dF_ (by omega)]
 simp only [bF_, fF_, bd_some]
 rw [n_3 hu (by omega) (by omega) (by omega)]
 simp only [bd3_some]
 have hh := q_Y (a := u) (n := n) (by omega) (k := 1) (by omega) (by omega)
 have he : (⟨⟨(c_x n u 1).1.registry.versions⟩, ⟨(c_x n u 1).1.log.bytes, u.log.stored⟩⟩ : w_) = (c_x n u 1).1 := rfl
 rw [he, hh]
 simp only [bd_some, bN_, bF_, fF_]
 rw [dF_ (by omega)]
 rfl
end Go.Vw
