import Derived.Test.YtfdcdeahjejlmaaGreatDoorVqP39
set_option linter.unusedVariables false
namespace Go.Vw
open Go.RowKit Dat
structure LnA (a : w_) : Prop where
 len : a.registry.versions.length ≤ LEN
 each : ∀ d ∈ a.registry.versions, LnD d
 bytes : a.log.bytes.length ≤ LEN
theorem m_Z {a : List UInt8} {left : Int} (hl : a_B left) (ha : a.length ≤ LEN) : ∃ r, f_T a left = some r ∧ (r < 0 ∨ (a_B r ∧ a.length ≤ MX ∧ r + a.length ≤ left)) := by
 have := MXv
 refine ⟨_, l_J a hl ha, ?_⟩
 unfold a_B at *
 split <;> omega
theorem n_0 {a : List Int} {left : Int} (hl : a_B left) (ha : a.length ≤ LEN) : ∃ r, f_V a left = some r ∧ (r < 0 ∨ (a_B r ∧ a.length ≤ MX ∧ r + a.length ≤ left)) := by
 have := MXv
 refine ⟨_, l_J a hl ha, ?_⟩
 unfold a_B at *
 split <;> omega
theorem q_Q {a : List Str} {left : Int} (hl : a_B left) (ha : a.length ≤ LEN) (he : ∀ s ∈ a, s.b.length ≤ LEN) : ∃ r, f_U a left = some r ∧ (r < 0 ∨ (a_B r ∧ a.length ≤ MX ∧ (∀ s ∈ a, s.b.length ≤ MX) ∧ r + a.length ≤ left)) := by
 have hMX := MXv; have hLEN := LENv
 unfold f_U
 unfold a_B at *
 rw [a_p (by omega) (by omega)]
 by_cases h : left < a.length
 ·rw [dT_ (by omega)]; exact ⟨_, rfl, .inl (by omega)⟩
 ·rw [dF_ (by omega)]
  simp only [bF_, fF_]
  rcases h_R (σ := Int) (ρ := Int) (body := (fun k67 => (fun x62 => bd (idx a ((k67 : Nat) : Int)) fun x91 => if (decide ((A_ x62 (x91.b.length : Int)) < 0)) = true then some (.ret (-1)) else some (.next (A_ x62 (x91.b.length : Int))))))
   (fun k s => (0 ≤ s ∧ s ≤ left - a.length) ∧ ∀ j (hj : j < a.length), j < k → a[j].b.length ≤ MX) (fun r => r < 0) (n := a.length) (fun k s hk hi => by
    have hx := he _ (gE_ hk)
    rw [ix_ hk, bd_some, a_p (by omega) (by omega)]
    by_cases h0 : s - (a[k].b.length : Int) < 0
    ·rw [dT_ h0]; exact .inr ⟨_, rfl, by omega⟩
    ·rw [dF_ h0]
     refine .inl ⟨_, rfl, by omega, fun j hj hjk => ?_⟩
     by_cases hjk' : j < k
     ·exact hi.2 j hj hjk'
     ·have : j = k := by omega
      subst this
      omega) a.length 0 (left - a.length) (by omega) ⟨by omega, fun j _ h => by omega⟩ with ⟨s, h1, h2⟩ | ⟨r, h1, h2⟩
  ·rw [h1]
   exact ⟨s, rfl, .inr ⟨by omega, by omega, fun t ht => by
    obtain ⟨j, hj, rfl⟩ := List.getElem_of_mem ht
    exact h2.2 j hj hj, by omega⟩⟩
  ·rw [h1]; exact ⟨r, rfl, .inl h2⟩
theorem q_R {a : c_} {left : Int} (hl : a_B left) (ha : LnR a) : ∃ r, e_K a left = some r ∧ (r < 0 ∨ (a_B r ∧ SmR a ∧ r + mR a ≤ left + 4)) := by
 have hMX := MXv; have hLEN := LENv
 have hn := ha.name
 unfold e_K
 rw [a_p (by unfold a_B at hl; omega) (by unfold a_B at hl; omega)]
 by_cases h : left - (a.name.b.length : Int) < 0
 ·rw [dT_ h]; exact ⟨_, rfl, .inl (by omega)⟩
 rw [dF_ h]
 have h0 : a_B (left - (a.name.b.length : Int)) := by unfold a_B at *; omega
 obtain ⟨r1, e1, g1⟩ := m_Z (a := a.bytes) h0 ha.bytes
 simp only [bF_, fF_]
 rw [e1, bd_some]
 by_cases k1 : r1 < 0
 ·rw [dT_ k1]; exact ⟨_, rfl, .inl (by omega)⟩
 rw [dF_ k1]
 have g1 := g1.resolve_left k1
 obtain ⟨r2, e2, g2⟩ := q_Q (a := a.names) g1.1 ha.names ha.each
 simp only [bF_, fF_]
 rw [e2, bd_some]
 by_cases k2 : r2 < 0
 ·rw [dT_ k2]; exact ⟨_, rfl, .inl (by omega)⟩
 rw [dF_ k2]
 have g2 := g2.resolve_left k2
 obtain ⟨r3, e3, g3⟩ := n_0 (a := a.tags) g2.1 ha.tags
 simp only [bF_, fF_]
 rw [e3, bd_some]
 by_cases k3 : r3 < 0
 ·rw [dT_ k3]; exact ⟨_, rfl, .inl (by omega)⟩
 rw [dF_ k3]
 have g3 := g3.resolve_left k3
 obtain ⟨r4, e4, g4⟩ := n_0 (a := a.kids) g3.1 ha.kids
 simp only [bF_, fF_]
 rw [e4, bd_some]
 by_cases k4 : r4 < 0
 ·rw [dT_ k4]; exact ⟨_, rfl, .inl (by omega)⟩
 rw [dF_ k4]
 have g4 := g4.resolve_left k4
 exact ⟨_, rfl, .inr ⟨g4.1, ⟨by unfold a_B at hl; omega, g1.2.1, g2.2.1, g3.2.1, g4.2.1, g2.2.2.1⟩, by
  have := g1.2.2; have := g2.2.2.2; have := g3.2.2; have := g4.2.2
  unfold mR; omega⟩⟩
theorem q_S {d : g_} {left : Int} (hl : a_B left) (hd : LnD d) : ∃ r, e_L d left = some r ∧ (r < 0 ∨ (a_B r ∧ SmD d ∧ 4 * r + mD d ≤ 4 * left)) := by
 have hMX := MXv; have hLEN := LENv
 have hr := hd.rules
 have hl' := hl
 unfold a_B at hl'
 unfold e_L i_j
 rw [a_p (by omega) (by omega)]
 by_cases h : left - (d.rules.length : Int) < 0
 ·rw [dT_ h]; exact ⟨_, rfl, .inl (by omega)⟩
 rw [dF_ h]
 simp only [bF_, fF_]
 rcases h_R (σ := Int) (ρ := Int) (body := (fun k119 => (fun x114 => bd (idx d.rules ((k119 : Nat) : Int)) fun x169 => bd (e_K x169 x114) fun r198 => if (decide (r198 < 0)) = true then some (.ret (-1)) else some (.next r198))))
   (fun k s => (a_B s ∧ s + (((d.rules.take k).map mR).sum : Nat) ≤ left - d.rules.length + 4 * (k : Int) ∧ s ≤ left - d.rules.length) ∧ ∀ j (hj : j < d.rules.length), j < k → SmR d.rules[j]) (fun r => r < 0) (n := d.rules.length) (fun k s hk hi => by
    obtain ⟨r, e, g⟩ := q_R hi.1.1 (hd.each _ (gE_ hk))
    rw [ix_ hk, bd_some, e, bd_some]
    by_cases h0 : r < 0
    ·rw [dT_ h0]; exact .inr ⟨_, rfl, by omega⟩
    ·rw [dF_ h0]
     have g := g.resolve_left h0
     have g3 := g.2.2
     have h4 : 4 ≤ mR d.rules[k] := by unfold mR; omega
     refine .inl ⟨_, rfl, ⟨g.1, ?_, by omega⟩, fun j hj hjk => ?_⟩
     ·rw [f_N hk, List.map_append, List.sum_append]
      simp only [List.map_cons, List.map_nil, List.sum_cons, List.sum_nil]
      omega
     by_cases hjk' : j < k
     ·exact hi.2 j hj hjk'
     ·have : j = k := by omega
      subst this
      exact g.2.1) d.rules.length 0 (left - d.rules.length) (by omega) ⟨⟨by unfold a_B; omega, by simp, by omega⟩, fun j _ h => by omega⟩ with ⟨s, h1, h2⟩ | ⟨r, h1, h2⟩
 ·rw [h1]
  simp only [bd_some, el_inl]
  obtain ⟨⟨h3, h4, h5⟩, h6⟩ := h2
  rw [List.take_length] at h4
  rw [dF_ (by have := h3.1; omega)]
  exact ⟨s, rfl, .inr ⟨h3, ⟨by omega, fun r hr => by
   obtain ⟨j, hj, rfl⟩ := List.getElem_of_mem hr
   exact h6 j hj hj⟩, by unfold mD; omega⟩⟩
 ·rw [h1]
  simp only [bd_some, el_inr]
  rw [dT_ h2]
  exact ⟨_, rfl, .inl (by omega)⟩
theorem q_T {l : List g_} {left : Int} (hl : a_B left) (hn : l.length ≤ LEN) (hd : ∀ d ∈ l, LnD d) : ∃ r, g_I l left = some r ∧ (r < 0 ∨ (a_B r ∧ l.length ≤ MX ∧ (∀ d ∈ l, SmD d) ∧ 4 * r + ((l.map mD).sum : Nat) ≤ 4 * left)) := by
 have hMX := MXv; have hLEN := LENv
 have hl' := hl
 unfold a_B at hl'
 unfold g_I
 rw [a_p (by omega) (by omega)]
 by_cases h : left - (l.length : Int) < 0
 ·rw [dT_ h]; exact ⟨_, rfl, .inl (by omega)⟩
 rw [dF_ h]
 simp only [bF_, fF_]
 rcases h_R (σ := Int) (ρ := Int) (body := (fun k89 => (fun x84 => bd (idx l ((k89 : Nat) : Int)) fun x124 => bd (e_L x124 x84) fun r138 => if (decide (r138 < 0)) = true then some (.ret (-1)) else some (.next r138))))
   (fun k s => (a_B s ∧ 4 * s + (((l.take k).map mD).sum : Nat) ≤ 4 * (left - l.length)) ∧ ∀ j (hj : j < l.length), j < k → SmD l[j]) (fun r => r < 0) (n := l.length) (fun k s hk hi => by
    obtain ⟨r, e, g⟩ := q_S hi.1.1 (hd _ (gE_ hk))
    rw [ix_ hk, bd_some, e, bd_some]
    by_cases h0 : r < 0
    ·rw [dT_ h0]; exact .inr ⟨_, rfl, by omega⟩
    ·rw [dF_ h0]
     have g := g.resolve_left h0
     have g3 := g.2.2
     refine .inl ⟨_, rfl, ⟨g.1, ?_⟩, fun j hj hjk => ?_⟩
     ·rw [f_N hk, List.map_append, List.sum_append]
      simp only [List.map_cons, List.map_nil, List.sum_cons, List.sum_nil]
      omega
     by_cases hjk' : j < k
     ·exact hi.2 j hj hjk'
     ·have : j = k := by omega
      subst this
      exact g.2.1) l.length 0 (left - l.length) (by omega) ⟨⟨by unfold a_B; omega, by simp⟩, fun j _ h => by omega⟩ with ⟨s, h1, h2⟩ | ⟨r, h1, h2⟩
 ·rw [h1]
  obtain ⟨⟨h3, h4⟩, h6⟩ := h2
  rw [List.take_length] at h4
  exact ⟨s, rfl, .inr ⟨h3, by omega, fun r hr => by
   obtain ⟨j, hj, rfl⟩ := List.getElem_of_mem hr
   exact h6 j hj hj, by omega⟩⟩
 ·rw [h1]; exact ⟨r, rfl, .inl h2⟩
def mA (a : w_) : Nat := (a.registry.versions.map mD).sum + a.log.bytes.length
theorem q_U {a : w_} (ha : LnA a) : ∃ r, g_J a 1048576 = some r ∧ (r < 0 ∨ (a_B r ∧ SmA a ∧ a.log.bytes.length ≤ MX ∧ mA a ≤ 4194304)) := by
 have hMX := MXv; have hML := MLv
 obtain ⟨r1, e1, g1⟩ := q_T (l := a.registry.versions) (left := 1048576) ⟨by omega, by omega⟩ ha.len ha.each
 unfold g_J i_p i_q
 simp only
 rw [e1, bd_some]
 by_cases h1 : r1 < 0
 ·rw [dT_ h1]; exact ⟨_, rfl, .inl (by omega)⟩
 have g1 := g1.resolve_left h1
 obtain ⟨r2, e2, g2⟩ := m_Z (a := a.log.bytes) g1.1 ha.bytes
 rw [dF_ h1]
 simp only [bF_, fF_, bd_some]
 rw [dF_ h1]
 simp only [bF_, fF_, e2, bd_some]
 by_cases h2 : r2 < 0
 ·rw [dT_ h2]; exact ⟨_, rfl, .inl (by omega)⟩
 have g2 := g2.resolve_left h2
 rw [dF_ h2]
 simp only [bF_, fF_, bd_some]
 rw [dF_ h2]
 exact ⟨_, rfl, .inr ⟨g2.1, ⟨g1.2.1, g1.2.2.1, by omega⟩, g2.2.1, by
  have := g1.2.2.2; have := g2.2.2
  unfold mA; omega⟩⟩
theorem q_V {l : List g_} (hl : l.length ≤ MX) (hd : ∀ d ∈ l, SmD d) : g_K l = some l := by
 have := MXv; have := a_l
 unfold g_K
 rw [d_F (by omega), bd_some, f_J _ (fun k hk c hc => by rw [ix_ hk, bd_some, p_A (hd _ (gE_ hk)), bd_some, c_d (by omega), bd_some])]; rfl
theorem q_W {a : w_} (ha : SmA a) (hb : a.log.bytes.length ≤ MX) : d_L a = some a := by
 unfold d_L i_r i_s
 simp only [q_V ha.len ha.each, l_K hb, bd_some]
theorem q_X (l : List g_) : h_2 l l = some true := by
 unfold h_2
 rw [b_u (fun _ => ()) (n := l.length) (fun j hj => by rw [ix_ hj]; simp only [bd_some, p_D, nT_, bF_, fF_])]
 simp
theorem n_1 (a : w_) : d_O a a = some true := by
 unfold d_O i_x i_y
 simp only [q_X, l_M, bd_some, bN_, nT_, bF_, fF_]
def c_x (n : Nat) (a : w_) (k : Int) : w_ × Int :=
 (⟨⟨mkL (fD n) a.registry.versions k⟩, ⟨(List.range a.log.bytes.length).map (fun (i : Nat) => mkB (mkK (fD n) a.registry.versions k + i)), a.log.stored⟩⟩, mkK (fD n) a.registry.versions k + a.log.bytes.length)
theorem n_2 (n : Nat) (a : w_) (k : Int) : (c_x n a k).2 = k + mA a := by
 unfold c_x mA
 rw [d_f _ mD (e_E n)]; simp only; omega
theorem n_3 {a : w_} (ha : SmA a) {n : Nat} (hn : 1100000 ≤ n) {k : Int} (h0 : 0 ≤ k) (hk : k + mA a ≤ 1152921504606846976) : f_d n a k = some ((c_x n a k).2, (c_x n a k).1.registry.versions, (c_x n a k).1.log.bytes) := by
 have hMX := MXv; have hML := MLv; have hb := ha.bytes
 unfold mA at hk
 unfold f_d i_E i_z
 simp only
 rw [q_J ha.len ha.each (by omega) h0 (by omega)]
 simp only [bd2_some]
 have hx := d_f _ mD (e_E n) a.registry.versions k
 rw [l_P (by omega) (by omega) (by omega)]
 rfl
theorem q_Y {a : w_} {n : Nat} (hn : 1100000 ≤ n) {k : Int} (h0 : 0 ≤ k) (hk : k + mA a ≤ 1152921504606846976) : f_c n (c_x n a k).1 k = some (c_x n a k).2 := by
 unfold mA at hk
 have hx := d_f _ mD (e_E n) a.registry.versions k
 unfold f_c i_B i_C c_x
 simp only
 rw [q_L (by omega) h0 (by omega), bd_some, dF_ (by omega)]
 simp only [bF_, fF_, bd_some]
 rw [dF_ (by omega)]
 simp only [bF_, fF_]
 rw [m_Q (by omega) (by omega), bd_some, dF_ (by omega)]
 simp only [bF_, fF_, bd_some]
 rw [dF_ (by omega)]
 rfl
end Go.Vw
