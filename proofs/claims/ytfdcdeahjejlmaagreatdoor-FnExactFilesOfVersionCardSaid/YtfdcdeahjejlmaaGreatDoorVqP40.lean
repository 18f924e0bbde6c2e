import Derived.Test.YtfdcdeahjejlmaaGreatDoorVqP39
set_option linter.unusedVariables false
namespace Go.Vw
open Go.RowKit Dat
structure LnA (a : D_) : Prop where
 len : a.registry.versions.length ≤ LEN
 each : ∀ d ∈ a.registry.versions, LnD d
 bytes : a.log.bytes.length ≤ LEN
theorem m_8 {a : List UInt8} {left : Int} (hl : a_j left) (ha : a.length ≤ LEN) : ∃ r, f_v a left = some r ∧ (r < 0 ∨ (a_j r ∧ a.length ≤ MX ∧ r + a.length ≤ left)) := by
 have := MXv
 refine ⟨_, k_O a hl ha, ?_⟩
 unfold a_j at *
 split <;> omega
theorem m_9 {a : List Int} {left : Int} (hl : a_j left) (ha : a.length ≤ LEN) : ∃ r, f_x a left = some r ∧ (r < 0 ∨ (a_j r ∧ a.length ≤ MX ∧ r + a.length ≤ left)) := by
 have := MXv
 refine ⟨_, k_O a hl ha, ?_⟩
 unfold a_j at *
 split <;> omega
theorem p_C {a : List Str} {left : Int} (hl : a_j left) (ha : a.length ≤ LEN) (he : ∀ s ∈ a, s.b.length ≤ LEN) : ∃ r, f_w a left = some r ∧ (r < 0 ∨ (a_j r ∧ a.length ≤ MX ∧ (∀ s ∈ a, s.b.length ≤ MX) ∧ r + a.length ≤ left)) := by
 have hMX := MXv; have hLEN := LENv
 unfold f_w
 unfold a_j at *
 rw [a_g (by omega) (by omega)]
 by_cases h : left < a.length
 ·rw [dT_ (by omega)]; exact ⟨_, rfl, .inl (by omega)⟩
 ·rw [dF_ (by omega)]
  simp only [bF_, fF_]
  rcases h_8 (σ := Int) (ρ := Int) (body := (fun k67 => (fun x62 => bd (idx a ((k67 : Nat) : Int)) fun x91 => if (decide ((y_ x62 (x91.b.length : Int)) < 0)) = true then some (.ret (-1)) else some (.next (y_ x62 (x91.b.length : Int))))))
   (fun k s => (0 ≤ s ∧ s ≤ left - a.length) ∧ ∀ j (hj : j < a.length), j < k → a[j].b.length ≤ MX) (fun r => r < 0) (n := a.length) (fun k s hk hi => by
    have hx := he _ (gE_ hk)
    rw [ix_ hk, bd_some, a_g (by omega) (by omega)]
    by_cases h0 : s - (a[k].b.length : Int) < 0
    ·rw [dT_ h0]; exact .inr ⟨_, rfl, by omega⟩
    ·rw [dF_ h0]
     refine .inl ⟨_, rfl, by omega, fun j hj hjk => ?_⟩
     by_cases hjk' : j < k
     ·exact hi.2 j hj hjk'
     ·have : j = k := by omega
      subst this
      omega) a.length 0 (left - a.length) (by omega) ⟨by omega, fun j _ h => by omega⟩ with ⟨s, h1, h2⟩ | ⟨r, h1, h2⟩
  ·rw [h1]
   exact ⟨s, rfl, .inr ⟨by omega, by omega, fun t ht => by
    obtain ⟨j, hj, rfl⟩ := List.getElem_of_mem ht
    exact h2.2 j hj hj, by omega⟩⟩
  ·rw [h1]; exact ⟨r, rfl, .inl h2⟩
theorem p_D {a : e_} {left : Int} (hl : a_j left) (ha : LnR a) : ∃ r, e_s a left = some r ∧ (r < 0 ∨ (a_j r ∧ SmR a ∧ r + mR a ≤ left + 4)) := by
 have hMX := MXv; have hLEN := LENv
 have hn := ha.name
 unfold e_s
 rw [a_g (by unfold a_j at hl; omega) (by unfold a_j at hl; omega)]
 by_cases h : left - (a.name.b.length : Int) < 0
 ·rw [dT_ h]; exact ⟨_, rfl, .inl (by omega)⟩
 rw [dF_ h]
 have h0 : a_j (left - (a.name.b.length : Int)) := by unfold a_j at *; omega
 obtain ⟨r1, e1, g1⟩ := m_8 (a := a.bytes) h0 ha.bytes
 simp only [bF_, fF_]
 rw [e1, bd_some]
 by_cases k1 : r1 < 0
 ·rw [dT_ k1]; exact ⟨_, rfl, .inl (by omega)⟩
 rw [dF_ k1]
 have g1 := g1.resolve_left k1
 obtain ⟨r2, e2, g2⟩ := p_C (a := a.names) g1.1 ha.names ha.each
 simp only [bF_, fF_]
 rw [e2, bd_some]
 by_cases k2 : r2 < 0
 ·rw [dT_ k2]; exact ⟨_, rfl, .inl (by omega)⟩
 rw [dF_ k2]
 have g2 := g2.resolve_left k2
 obtain ⟨r3, e3, g3⟩ := m_9 (a := a.tags) g2.1 ha.tags
 simp only [bF_, fF_]
 rw [e3, bd_some]
 by_cases k3 : r3 < 0
 ·rw [dT_ k3]; exact ⟨_, rfl, .inl (by omega)⟩
 rw [dF_ k3]
 have g3 := g3.resolve_left k3
 obtain ⟨r4, e4, g4⟩ := m_9 (a := a.kids) g3.1 ha.kids
 simp only [bF_, fF_]
 rw [e4, bd_some]
 by_cases k4 : r4 < 0
 ·rw [dT_ k4]; exact ⟨_, rfl, .inl (by omega)⟩
 rw [dF_ k4]
 have g4 := g4.resolve_left k4
 exact ⟨_, rfl, .inr ⟨g4.1, ⟨by unfold a_j at hl; omega, g1.2.1, g2.2.1, g3.2.1, g4.2.1, g2.2.2.1⟩, by
  have := g1.2.2; have := g2.2.2.2; have := g3.2.2; have := g4.2.2
  unfold mR; omega⟩⟩
theorem p_E {d : g_} {left : Int} (hl : a_j left) (hd : LnD d) : ∃ r, e_t d left = some r ∧ (r < 0 ∨ (a_j r ∧ SmD d ∧ 4 * r + mD d ≤ 4 * left)) := by
 have hMX := MXv; have hLEN := LENv
 have hr := hd.rules
 have hl' := hl
 unfold a_j at hl'
 unfold e_t h_A
 rw [a_g (by omega) (by omega)]
 by_cases h : left - (d.rules.length : Int) < 0
 ·rw [dT_ h]; exact ⟨_, rfl, .inl (by omega)⟩
 rw [dF_ h]
 simp only [bF_, fF_]
 rcases h_8 (σ := Int) (ρ := Int) (body := (fun k119 => (fun x114 => bd (idx d.rules ((k119 : Nat) : Int)) fun x169 => bd (e_s x169 x114) fun r198 => if (decide (r198 < 0)) = true then some (.ret (-1)) else some (.next r198))))
   (fun k s => (a_j s ∧ s + (((d.rules.take k).map mR).sum : Nat) ≤ left - d.rules.length + 4 * (k : Int) ∧ s ≤ left - d.rules.length) ∧ ∀ j (hj : j < d.rules.length), j < k → SmR d.rules[j]) (fun r => r < 0) (n := d.rules.length) (fun k s hk hi => by
    obtain ⟨r, e, g⟩ := p_D hi.1.1 (hd.each _ (gE_ hk))
    rw [ix_ hk, bd_some, e, bd_some]
    by_cases h0 : r < 0
    ·rw [dT_ h0]; exact .inr ⟨_, rfl, by omega⟩
    ·rw [dF_ h0]
     have g := g.resolve_left h0
     have g3 := g.2.2
     have h4 : 4 ≤ mR d.rules[k] := by unfold mR; omega
     refine .inl ⟨_, rfl, ⟨g.1, ?_, by omega⟩, fun j hj hjk => ?_⟩
     ·rw [h_o hk, List.map_append, List.sum_append]
      simp only [List.map_cons, List.map_nil, List.sum_cons, List.sum_nil]
      omega
     by_cases hjk' : j < k
     ·exact hi.2 j hj hjk'
     ·have : j = k := by omega
      subst this
      exact g.2.1) d.rules.length 0 (left - d.rules.length) (by omega) ⟨⟨by unfold a_j; omega, by simp, by omega⟩, fun j _ h => by omega⟩ with ⟨s, h1, h2⟩ | ⟨r, h1, h2⟩
 ·rw [h1]
  simp only [bd_some, el_inl]
  obtain ⟨⟨h3, h4, h5⟩, h6⟩ := h2
  rw [List.take_length] at h4
  rw [dF_ (by have := h3.1; omega)]
  exact ⟨s, rfl, .inr ⟨h3, ⟨by omega, fun r hr => by
   obtain ⟨j, hj, rfl⟩ := List.getElem_of_mem hr
   exact h6 j hj hj⟩, by unfold mD; omega⟩⟩
 ·rw [h1]
  simp only [bd_some, el_inr]
  rw [dT_ h2]
  exact ⟨_, rfl, .inl (by omega)⟩
theorem p_F {l : List g_} {left : Int} (hl : a_j left) (hn : l.length ≤ LEN) (hd : ∀ d ∈ l, LnD d) : ∃ r, g_h l left = some r ∧ (r < 0 ∨ (a_j r ∧ l.length ≤ MX ∧ (∀ d ∈ l, SmD d) ∧ 4 * r + ((l.map mD).sum : Nat) ≤ 4 * left)) := by
 have hMX := MXv; have hLEN := LENv
 have hl' := hl
 unfold a_j at hl'
 unfold g_h
 rw [a_g (by omega) (by omega)]
 by_cases h : left - (l.length : Int) < 0
 ·rw [dT_ h]; exact ⟨_, rfl, .inl (by omega)⟩
 rw [dF_ h]
 simp only [bF_, fF_]
 rcases h_8 (σ := Int) (ρ := Int) (body := (fun k89 => (fun x84 => bd (idx l ((k89 : Nat) : Int)) fun x124 => bd (e_t x124 x84) fun r138 => if (decide (r138 < 0)) = true then some (.ret (-1)) else some (.next r138))))
   (fun k s => (a_j s ∧ 4 * s + (((l.take k).map mD).sum : Nat) ≤ 4 * (left - l.length)) ∧ ∀ j (hj : j < l.length), j < k → SmD l[j]) (fun r => r < 0) (n := l.length) (fun k s hk hi => by
    obtain ⟨r, e, g⟩ := p_E hi.1.1 (hd _ (gE_ hk))
    rw [ix_ hk, bd_some, e, bd_some]
    by_cases h0 : r < 0
    ·rw [dT_ h0]; exact .inr ⟨_, rfl, by omega⟩
    ·rw [dF_ h0]
     have g := g.resolve_left h0
     have g3 := g.2.2
     refine .inl ⟨_, rfl, ⟨g.1, ?_⟩, fun j hj hjk => ?_⟩
     ·rw [h_o hk, List.map_append, List.sum_append]
      simp only [List.map_cons, List.map_nil, List.sum_cons, List.sum_nil]
      omega
     by_cases hjk' : j < k
     ·exact hi.2 j hj hjk'
     ·have : j = k := by omega
      subst this
      exact g.2.1) l.length 0 (left - l.length) (by omega) ⟨⟨by unfold a_j; omega, by simp⟩, fun j _ h => by omega⟩ with ⟨s, h1, h2⟩ | ⟨r, h1, h2⟩
 ·rw [h1]
  obtain ⟨⟨h3, h4⟩, h6⟩ := h2
  rw [List.take_length] at h4
  exact ⟨s, rfl, .inr ⟨h3, by omega, fun r hr => by
   obtain ⟨j, hj, rfl⟩ := List.getElem_of_mem hr
   exact h6 j hj hj, by omega⟩⟩
 ·rw [h1]; exact ⟨r, rfl, .inl h2⟩
def mA (a : D_) : Nat := (a.registry.versions.map mD).sum + a.log.bytes.length
theorem p_G {a : D_} (ha : LnA a) : ∃ r, g_i a 1048576 = some r ∧ (r < 0 ∨ (a_j r ∧ SmA a ∧ a.log.bytes.length ≤ MX ∧ mA a ≤ 4194304)) := by
 have hMX := MXv; have hML := MLv
 obtain ⟨r1, e1, g1⟩ := p_F (l := a.registry.versions) (left := 1048576) ⟨by omega, by omega⟩ ha.len ha.each
 unfold g_i h_G h_H
 simp only
 rw [e1, bd_some]
 by_cases h1 : r1 < 0
 ·rw [dT_ h1]; exact ⟨_, rfl, .inl (by omega)⟩
 have g1 := g1.resolve_left h1
 obtain ⟨r2, e2, g2⟩ := m_8 (a := a.log.bytes) g1.1 ha.bytes
 rw [dF_ h1]
 simp only [bF_, fF_, bd_some]
 rw [dF_ h1]
 simp only [bF_, fF_, e2, bd_some]
 by_cases h2 : r2 < 0
 ·rw [dT_ h2]; exact ⟨_, rfl, .inl (by omega)⟩
 have g2 := g2.resolve_left h2
 rw [dF_ h2]
 simp only [bF_, fF_, bd_some]
 rw [dF_ h2]
 exact ⟨_, rfl, .inr ⟨g2.1, ⟨g1.2.1, g1.2.2.1, by omega⟩, g2.2.1, by
  have := g1.2.2.2; have := g2.2.2
  unfold mA; omega⟩⟩
theorem p_H {l : List g_} (hl : l.length ≤ MX) (hd : ∀ d ∈ l, SmD d) : g_j l = some l := by
 have := MXv; have := a_o
 unfold g_j
 rw [e_p (by omega), bd_some, f_m _ (fun k hk c hc => by rw [ix_ hk, bd_some, o_l (hd _ (gE_ hk)), bd_some, b_U (by omega), bd_some])]; rfl
theorem p_I {a : D_} (ha : SmA a) (hb : a.log.bytes.length ≤ MX) : d_z a = some a := by
 unfold d_z h_I h_J
 simp only [p_H ha.len ha.each, k_P hb, bd_some]
theorem p_J (l : List g_) : g_F l l = some true := by
 unfold g_F
 rw [b_i (fun _ => ()) (n := l.length) (fun j hj => by rw [ix_ hj]; simp only [bd_some, o_n, nT_, bF_, fF_])]
 simp
theorem p_K (a : D_) : g_G a a = some true := by
 unfold g_G h_P h_Q
 simp only [p_J, k_R, bd_some, bN_, nT_, bF_, fF_]
def f_t (n : Nat) (a : D_) (k : Int) : D_ × Int :=
 (⟨⟨mkL (fD n) a.registry.versions k⟩, ⟨(List.range a.log.bytes.length).map (fun (i : Nat) => mkB (mkK (fD n) a.registry.versions k + i)), a.log.stored⟩⟩, mkK (fD n) a.registry.versions k + a.log.bytes.length)
theorem p_L (n : Nat) (a : D_) (k : Int) : (f_t n a k).2 = k + mA a := by
 unfold f_t mA
 rw [e_l _ mD (j_v n)]; simp only; omega
theorem p_M {a : D_} (ha : SmA a) {n : Nat} (hn : 1100000 ≤ n) {k : Int} (h0 : 0 ≤ k) (hk : k + mA a ≤ 1152921504606846976) : g_I n a k = some ((f_t n a k).2, (f_t n a k).1.registry.versions, (f_t n a k).1.log.bytes) := by
 have hMX := MXv; have hML := MLv; have hb := ha.bytes
 unfold mA at hk
 unfold g_I h_V h_U
 simp only
 rw [p_x ha.len ha.each (by omega) h0 (by omega)]
 simp only [bd2_some]
 have hx := e_l _ mD (j_v n) a.registry.versions k
 rw [k_V (by omega) (by omega) (by omega)]
 rfl
end Go.Vw
