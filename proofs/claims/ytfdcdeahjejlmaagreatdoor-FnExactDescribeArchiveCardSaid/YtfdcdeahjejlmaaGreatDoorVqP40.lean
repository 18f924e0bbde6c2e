import Derived.Test.YtfdcdeahjejlmaaGreatDoorVqP39
set_option linter.unusedVariables false
namespace Go.Vw
open Go.RowKit Dat
structure LnA (a : C_) : Prop where
 len : a.registry.versions.length ≤ LEN
 each : ∀ d ∈ a.registry.versions, LnD d
 bytes : a.log.bytes.length ≤ LEN
theorem m_J {a : List UInt8} {left : Int} (hl : a_l left) (ha : a.length ≤ LEN) : ∃ r, f_J a left = some r ∧ (r < 0 ∨ (a_l r ∧ a.length ≤ MX ∧ r + a.length ≤ left)) := by
 have := MXv
 refine ⟨_, l_n a hl ha, ?_⟩
 unfold a_l at *
 split <;> omega
theorem m_K {a : List Int} {left : Int} (hl : a_l left) (ha : a.length ≤ LEN) : ∃ r, f_L a left = some r ∧ (r < 0 ∨ (a_l r ∧ a.length ≤ MX ∧ r + a.length ≤ left)) := by
 have := MXv
 refine ⟨_, l_n a hl ha, ?_⟩
 unfold a_l at *
 split <;> omega
theorem q_M {a : List Str} {left : Int} (hl : a_l left) (ha : a.length ≤ LEN) (he : ∀ s ∈ a, s.b.length ≤ LEN) : ∃ r, f_K a left = some r ∧ (r < 0 ∨ (a_l r ∧ a.length ≤ MX ∧ (∀ s ∈ a, s.b.length ≤ MX) ∧ r + a.length ≤ left)) := by
 have hMX := MXv; have hLEN := LENv
 unfold f_K
 unfold a_l at *
 rw [a_h (by omega) (by omega)]
 by_cases h : left < a.length
 ·rw [dT_ (by omega)]; exact ⟨_, rfl, .inl (by omega)⟩
 ·rw [dF_ (by omega)]
  simp only [bF_, fF_]
  rcases h_s (σ := Int) (ρ := Int) (body := (fun k67 => (fun x62 => bd (idx a ((k67 : Nat) : Int)) fun x91 => if (decide ((y_ x62 (x91.b.length : Int)) < 0)) = true then some (.ret (-1)) else some (.next (y_ x62 (x91.b.length : Int))))))
   (fun k s => (0 ≤ s ∧ s ≤ left - a.length) ∧ ∀ j (hj : j < a.length), j < k → a[j].b.length ≤ MX) (fun r => r < 0) (n := a.length) (fun k s hk hi => by
    have hx := he _ (gE_ hk)
    rw [ix_ hk, bd_some, a_h (by omega) (by omega)]
    by_cases h0 : s - (a[k].b.length : Int) < 0
    ·rw [dT_ h0]; exact .inr ⟨_, rfl, by omega⟩
    ·rw [dF_ h0]
     refine .inl ⟨_, rfl, by omega, fun j hj hjk => ?_⟩
     by_cases hjk' : j < k
     ·exact hi.2 j hj hjk'
     ·have : j = k := by omega
      subst this
      omega) a.length 0 (left - a.length) (by omega) ⟨by omega, fun j _ h => by omega⟩ with ⟨s, h1, h2⟩ | ⟨r, h1, h2⟩
  ·rw [h1]
   exact ⟨s, rfl, .inr ⟨by omega, by omega, fun t ht => by
    obtain ⟨j, hj, rfl⟩ := List.getElem_of_mem ht
    exact h2.2 j hj hj, by omega⟩⟩
  ·rw [h1]; exact ⟨r, rfl, .inl h2⟩
theorem q_N {a : e_} {left : Int} (hl : a_l left) (ha : LnR a) : ∃ r, e_G a left = some r ∧ (r < 0 ∨ (a_l r ∧ SmR a ∧ r + mR a ≤ left + 4)) := by
 have hMX := MXv; have hLEN := LENv
 have hn := ha.name
 unfold e_G
 rw [a_h (by unfold a_l at hl; omega) (by unfold a_l at hl; omega)]
 by_cases h : left - (a.name.b.length : Int) < 0
 ·rw [dT_ h]; exact ⟨_, rfl, .inl (by omega)⟩
 rw [dF_ h]
 have h0 : a_l (left - (a.name.b.length : Int)) := by unfold a_l at *; omega
 obtain ⟨r1, e1, g1⟩ := m_J (a := a.bytes) h0 ha.bytes
 simp only [bF_, fF_]
 rw [e1, bd_some]
 by_cases k1 : r1 < 0
 ·rw [dT_ k1]; exact ⟨_, rfl, .inl (by omega)⟩
 rw [dF_ k1]
 have g1 := g1.resolve_left k1
 obtain ⟨r2, e2, g2⟩ := q_M (a := a.names) g1.1 ha.names ha.each
 simp only [bF_, fF_]
 rw [e2, bd_some]
 by_cases k2 : r2 < 0
 ·rw [dT_ k2]; exact ⟨_, rfl, .inl (by omega)⟩
 rw [dF_ k2]
 have g2 := g2.resolve_left k2
 obtain ⟨r3, e3, g3⟩ := m_K (a := a.tags) g2.1 ha.tags
 simp only [bF_, fF_]
 rw [e3, bd_some]
 by_cases k3 : r3 < 0
 ·rw [dT_ k3]; exact ⟨_, rfl, .inl (by omega)⟩
 rw [dF_ k3]
 have g3 := g3.resolve_left k3
 obtain ⟨r4, e4, g4⟩ := m_K (a := a.kids) g3.1 ha.kids
 simp only [bF_, fF_]
 rw [e4, bd_some]
 by_cases k4 : r4 < 0
 ·rw [dT_ k4]; exact ⟨_, rfl, .inl (by omega)⟩
 rw [dF_ k4]
 have g4 := g4.resolve_left k4
 exact ⟨_, rfl, .inr ⟨g4.1, ⟨by unfold a_l at hl; omega, g1.2.1, g2.2.1, g3.2.1, g4.2.1, g2.2.2.1⟩, by
  have := g1.2.2; have := g2.2.2.2; have := g3.2.2; have := g4.2.2
  unfold mR; omega⟩⟩
theorem q_O {d : g_} {left : Int} (hl : a_l left) (hd : LnD d) : ∃ r, e_H d left = some r ∧ (r < 0 ∨ (a_l r ∧ SmD d ∧ 4 * r + mD d ≤ 4 * left)) := by
 have hMX := MXv; have hLEN := LENv
 have hr := hd.rules
 have hl' := hl
 unfold a_l at hl'
 unfold e_H h_V
 rw [a_h (by omega) (by omega)]
 by_cases h : left - (d.rules.length : Int) < 0
 ·rw [dT_ h]; exact ⟨_, rfl, .inl (by omega)⟩
 rw [dF_ h]
 simp only [bF_, fF_]
 rcases h_s (σ := Int) (ρ := Int) (body := (fun k119 => (fun x114 => bd (idx d.rules ((k119 : Nat) : Int)) fun x169 => bd (e_G x169 x114) fun r198 => if (decide (r198 < 0)) = true then some (.ret (-1)) else some (.next r198))))
   (fun k s => (a_l s ∧ s + (((d.rules.take k).map mR).sum : Nat) ≤ left - d.rules.length + 4 * (k : Int) ∧ s ≤ left - d.rules.length) ∧ ∀ j (hj : j < d.rules.length), j < k → SmR d.rules[j]) (fun r => r < 0) (n := d.rules.length) (fun k s hk hi => by
    obtain ⟨r, e, g⟩ := q_N hi.1.1 (hd.each _ (gE_ hk))
    rw [ix_ hk, bd_some, e, bd_some]
    by_cases h0 : r < 0
    ·rw [dT_ h0]; exact .inr ⟨_, rfl, by omega⟩
    ·rw [dF_ h0]
     have g := g.resolve_left h0
     have g3 := g.2.2
     have h4 : 4 ≤ mR d.rules[k] := by unfold mR; omega
     refine .inl ⟨_, rfl, ⟨g.1, ?_, by omega⟩, fun j hj hjk => ?_⟩
     ·rw [h_I hk, List.map_append, List.sum_append]
      simp only [List.map_cons, List.map_nil, List.sum_cons, List.sum_nil]
      omega
     by_cases hjk' : j < k
     ·exact hi.2 j hj hjk'
     ·have : j = k := by omega
      subst this
      exact g.2.1) d.rules.length 0 (left - d.rules.length) (by omega) ⟨⟨by unfold a_l; omega, by simp, by omega⟩, fun j _ h => by omega⟩ with ⟨s, h1, h2⟩ | ⟨r, h1, h2⟩
 ·rw [h1]
  simp only [bd_some, el_inl]
  obtain ⟨⟨h3, h4, h5⟩, h6⟩ := h2
  rw [List.take_length] at h4
  rw [dF_ (by have := h3.1; omega)]
  exact ⟨s, rfl, .inr ⟨h3, ⟨by omega, fun r hr => by
   obtain ⟨j, hj, rfl⟩ := List.getElem_of_mem hr
   exact h6 j hj hj⟩, by unfold mD; omega⟩⟩
 ·rw [h1]
  simp only [bd_some, el_inr]
  rw [dT_ h2]
  exact ⟨_, rfl, .inl (by omega)⟩
theorem q_P {l : List g_} {left : Int} (hl : a_l left) (hn : l.length ≤ LEN) (hd : ∀ d ∈ l, LnD d) : ∃ r, g_w l left = some r ∧ (r < 0 ∨ (a_l r ∧ l.length ≤ MX ∧ (∀ d ∈ l, SmD d) ∧ 4 * r + ((l.map mD).sum : Nat) ≤ 4 * left)) := by
 have hMX := MXv; have hLEN := LENv
 have hl' := hl
 unfold a_l at hl'
 unfold g_w
 rw [a_h (by omega) (by omega)]
 by_cases h : left - (l.length : Int) < 0
 ·rw [dT_ h]; exact ⟨_, rfl, .inl (by omega)⟩
 rw [dF_ h]
 simp only [bF_, fF_]
 rcases h_s (σ := Int) (ρ := Int) (body := (fun k89 => (fun x84 => bd (idx l ((k89 : Nat) : Int)) fun x124 => bd (e_H x124 x84) fun r138 => if (decide (r138 < 0)) = true then some (.ret (-1)) else some (.next r138))))
   (fun k s => (a_l s ∧ 4 * s + (((l.take k).map mD).sum : Nat) ≤ 4 * (left - l.length)) ∧ ∀ j (hj : j < l.length), j < k → SmD l[j]) (fun r => r < 0) (n := l.length) (fun k s hk hi => by
    obtain ⟨r, e, g⟩ := q_O hi.1.1 (hd _ (gE_ hk))
    rw [ix_ hk, bd_some, e, bd_some]
    by_cases h0 : r < 0
    ·rw [dT_ h0]; exact .inr ⟨_, rfl, by omega⟩
    ·rw [dF_ h0]
     have g := g.resolve_left h0
     have g3 := g.2.2
     refine .inl ⟨_, rfl, ⟨g.1, ?_⟩, fun j hj hjk => ?_⟩
     ·rw [h_I hk, List.map_append, List.sum_append]
      simp only [List.map_cons, List.map_nil, List.sum_cons, List.sum_nil]
      omega
     by_cases hjk' : j < k
     ·exact hi.2 j hj hjk'
     ·have : j = k := by omega
      subst this
      exact g.2.1) l.length 0 (left - l.length) (by omega) ⟨⟨by unfold a_l; omega, by simp⟩, fun j _ h => by omega⟩ with ⟨s, h1, h2⟩ | ⟨r, h1, h2⟩
 ·rw [h1]
  obtain ⟨⟨h3, h4⟩, h6⟩ := h2
  rw [List.take_length] at h4
  exact ⟨s, rfl, .inr ⟨h3, by omega, fun r hr => by
   obtain ⟨j, hj, rfl⟩ := List.getElem_of_mem hr
   exact h6 j hj hj, by omega⟩⟩
 ·rw [h1]; exact ⟨r, rfl, .inl h2⟩
def mA (a : C_) : Nat := (a.registry.versions.map mD).sum + a.log.bytes.length
theorem m_L {a : C_} (ha : LnA a) : ∃ r, e_X a 1048576 = some r ∧ (r < 0 ∨ (a_l r ∧ SmA a ∧ a.log.bytes.length ≤ MX ∧ mA a ≤ 4194304)) := by
 have hMX := MXv; have hML := MLv
 obtain ⟨r1, e1, g1⟩ := q_P (l := a.registry.versions) (left := 1048576) ⟨by omega, by omega⟩ ha.len ha.each
 unfold e_X i_1 i_2
 simp only
 rw [e1, bd_some]
 by_cases h1 : r1 < 0
 ·rw [dT_ h1]; exact ⟨_, rfl, .inl (by omega)⟩
 have g1 := g1.resolve_left h1
 obtain ⟨r2, e2, g2⟩ := m_J (a := a.log.bytes) g1.1 ha.bytes
 rw [dF_ h1]
 simp only [bF_, fF_, bd_some]
 rw [dF_ h1]
 simp only [bF_, fF_, e2, bd_some]
 by_cases h2 : r2 < 0
 ·rw [dT_ h2]; exact ⟨_, rfl, .inl (by omega)⟩
 have g2 := g2.resolve_left h2
 rw [dF_ h2]
 simp only [bF_, fF_, bd_some]
 rw [dF_ h2]
 exact ⟨_, rfl, .inr ⟨g2.1, ⟨g1.2.1, g1.2.2.1, by omega⟩, g2.2.1, by
  have := g1.2.2.2; have := g2.2.2
  unfold mA; omega⟩⟩
theorem q_Q {l : List g_} (hl : l.length ≤ MX) (hd : ∀ d ∈ l, SmD d) : g_x l = some l := by
 have := MXv; have := a_e
 unfold g_x
 rw [e_D (by omega), bd_some, f_z _ (fun k hk c hc => by rw [ix_ hk, bd_some, p_A (hd _ (gE_ hk)), bd_some, c_2 (by omega), bd_some])]; rfl
theorem m_M {a : C_} (ha : SmA a) (hb : a.log.bytes.length ≤ MX) : c_3 a = some a := by
 unfold c_3 i_3 i_4
 simp only [q_Q ha.len ha.each, l_o hb, bd_some]
theorem q_R (l : List g_) : g_Q l l = some true := by
 unfold g_Q
 rw [b_n (fun _ => ()) (n := l.length) (fun j hj => by rw [ix_ hj]; simp only [bd_some, p_C, nT_, bF_, fF_])]
 simp
theorem m_N (a : C_) : f_8 a a = some true := by
 unfold f_8 i_a i_b
 simp only [q_R, l_q, bd_some, bN_, nT_, bF_, fF_]
def f_G (n : Nat) (a : C_) (k : Int) : C_ × Int :=
 (⟨⟨mkL (fD n) a.registry.versions k⟩, ⟨(List.range a.log.bytes.length).map (fun (i : Nat) => mkB (mkK (fD n) a.registry.versions k + i)), a.log.stored⟩⟩, mkK (fD n) a.registry.versions k + a.log.bytes.length)
theorem m_O (n : Nat) (a : C_) (k : Int) : (f_G n a k).2 = k + mA a := by
 unfold f_G mA
 rw [e_z _ mD (k_b n)]; simp only; omega
theorem m_P {a : C_} (ha : SmA a) {n : Nat} (hn : 1100000 ≤ n) {k : Int} (h0 : 0 ≤ k) (hk : k + mA a ≤ 1152921504606846976) : f_a n a k = some ((f_G n a k).2, (f_G n a k).1.registry.versions, (f_G n a k).1.log.bytes) := by
 have hMX := MXv; have hML := MLv; have hb := ha.bytes
 unfold mA at hk
 unfold f_a i_g i_d
 simp only
 rw [q_H ha.len ha.each (by omega) h0 (by omega)]
 simp only [bd2_some]
 have hx := e_z _ mD (k_b n) a.registry.versions k
 rw [l_t (by omega) (by omega) (by omega)]
 rfl
end Go.Vw
