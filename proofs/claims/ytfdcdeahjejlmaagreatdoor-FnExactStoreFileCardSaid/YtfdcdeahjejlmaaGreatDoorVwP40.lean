import Derived.Test.YtfdcdeahjejlmaaGreatDoorVwP39
namespace Go.Vw
open Go.RowKit Dat
structure LnA (a : Archive) : Prop where
 len : a.registry.versions.length ≤ LEN
 each : ∀ d ∈ a.registry.versions, LnD d
 bytes : a.log.bytes.length ≤ LEN
theorem szw_byte {a : List UInt8} {left : Int} (hl : left_ left) (ha : a.length ≤ LEN) : ∃ r, M_laws_szByteS a left = some r ∧ (r < 0 ∨ (left_ r ∧ a.length ≤ MX ∧ r + a.length ≤ left)) := by
 have := MXv
 refine ⟨_, sz_one a hl ha, ?_⟩
 unfold left_ at *
 split <;> omega
theorem szw_int {a : List Int} {left : Int} (hl : left_ left) (ha : a.length ≤ LEN) : ∃ r, M_laws_szIntS a left = some r ∧ (r < 0 ∨ (left_ r ∧ a.length ≤ MX ∧ r + a.length ≤ left)) := by
 have := MXv
 refine ⟨_, sz_one a hl ha, ?_⟩
 unfold left_ at *
 split <;> omega
theorem szw_string {a : List Str} {left : Int} (hl : left_ left) (ha : a.length ≤ LEN) (he : ∀ s ∈ a, s.b.length ≤ LEN) : ∃ r, M_laws_szStringS a left = some r ∧ (r < 0 ∨ (left_ r ∧ a.length ≤ MX ∧ (∀ s ∈ a, s.b.length ≤ MX) ∧ r + a.length ≤ left)) := by
 have hMX := MXv; have hLEN := LENv
 unfold M_laws_szStringS
 unfold left_ at *
 rw [isub_of (by omega) (by omega)]
 by_cases h : left < a.length
 ·rw [dT_ (by omega)]; exact ⟨_, rfl, .inl (by omega)⟩
 ·rw [dF_ (by omega)]
  simp only [bF_, fF_]
  rcases forN_inv (σ := Int) (ρ := Int) (body := (fun k67 => (fun x62 => bd (idx a ((k67 : Nat) : Int)) fun x91 => if (decide ((isub x62 (x91.b.length : Int)) < 0)) = true then some (.ret (-1)) else some (.next (isub x62 (x91.b.length : Int))))))
   (fun k s => (0 ≤ s ∧ s ≤ left - a.length) ∧ ∀ j (hj : j < a.length), j < k → a[j].b.length ≤ MX) (fun r => r < 0) (n := a.length) (fun k s hk hi => by
    have hx := he _ (gE_ hk)
    rw [ix_ hk, bd_some, isub_of (by omega) (by omega)]
    by_cases h0 : s - (a[k].b.length : Int) < 0
    ·rw [dT_ h0]; exact .inr ⟨_, rfl, by omega⟩
    ·rw [dF_ h0]
     refine .inl ⟨_, rfl, by omega, fun j hj hjk => ?_⟩
     by_cases hjk' : j < k
     ·exact hi.2 j hj hjk'
     ·have : j = k := by omega
      subst this
      omega) a.length 0 (left - a.length) (by omega) ⟨by omega, fun j _ h => by omega⟩ with ⟨s, h1, h2⟩ | ⟨r, h1, h2⟩
  ·rw [h1]
   exact ⟨s, rfl, .inr ⟨by omega, by omega, fun t ht => by
    obtain ⟨j, hj, rfl⟩ := List.getElem_of_mem ht
    exact h2.2 j hj hj, by omega⟩⟩
  ·rw [h1]; exact ⟨r, rfl, .inl h2⟩
theorem szw_rule {a : Rule} {left : Int} (hl : left_ left) (ha : LnR a) : ∃ r, M_laws_szRule a left = some r ∧ (r < 0 ∨ (left_ r ∧ SmR a ∧ r + mR a ≤ left + 4)) := by
 have hMX := MXv; have hLEN := LENv
 have hn := ha.name
 unfold M_laws_szRule
 rw [isub_of (by unfold left_ at hl; omega) (by unfold left_ at hl; omega)]
 by_cases h : left - (a.name.b.length : Int) < 0
 ·rw [dT_ h]; exact ⟨_, rfl, .inl (by omega)⟩
 rw [dF_ h]
 have h0 : left_ (left - (a.name.b.length : Int)) := by unfold left_ at *; omega
 obtain ⟨r1, e1, g1⟩ := szw_byte (a := a.bytes) h0 ha.bytes
 simp only [bF_, fF_]
 rw [e1, bd_some]
 by_cases k1 : r1 < 0
 ·rw [dT_ k1]; exact ⟨_, rfl, .inl (by omega)⟩
 rw [dF_ k1]
 have g1 := g1.resolve_left k1
 obtain ⟨r2, e2, g2⟩ := szw_string (a := a.names) g1.1 ha.names ha.each
 simp only [bF_, fF_]
 rw [e2, bd_some]
 by_cases k2 : r2 < 0
 ·rw [dT_ k2]; exact ⟨_, rfl, .inl (by omega)⟩
 rw [dF_ k2]
 have g2 := g2.resolve_left k2
 obtain ⟨r3, e3, g3⟩ := szw_int (a := a.tags) g2.1 ha.tags
 simp only [bF_, fF_]
 rw [e3, bd_some]
 by_cases k3 : r3 < 0
 ·rw [dT_ k3]; exact ⟨_, rfl, .inl (by omega)⟩
 rw [dF_ k3]
 have g3 := g3.resolve_left k3
 obtain ⟨r4, e4, g4⟩ := szw_int (a := a.kids) g3.1 ha.kids
 simp only [bF_, fF_]
 rw [e4, bd_some]
 by_cases k4 : r4 < 0
 ·rw [dT_ k4]; exact ⟨_, rfl, .inl (by omega)⟩
 rw [dF_ k4]
 have g4 := g4.resolve_left k4
 exact ⟨_, rfl, .inr ⟨g4.1, ⟨by unfold left_ at hl; omega, g1.2.1, g2.2.1, g3.2.1, g4.2.1, g2.2.2.1⟩, by
  have := g1.2.2; have := g2.2.2.2; have := g3.2.2; have := g4.2.2
  unfold mR; omega⟩⟩
theorem szw_desc {d : Desc} {left : Int} (hl : left_ left) (hd : LnD d) : ∃ r, M_laws_szDescription d left = some r ∧ (r < 0 ∨ (left_ r ∧ SmD d ∧ 4 * r + mD d ≤ 4 * left)) := by
 have hMX := MXv; have hLEN := LENv
 have hr := hd.rules
 have hl' := hl
 unfold left_ at hl'
 unfold M_laws_szDescription M_laws_szRuleS
 rw [isub_of (by omega) (by omega)]
 by_cases h : left - (d.rules.length : Int) < 0
 ·rw [dT_ h]; exact ⟨_, rfl, .inl (by omega)⟩
 rw [dF_ h]
 simp only [bF_, fF_]
 rcases forN_inv (σ := Int) (ρ := Int) (body := (fun k119 => (fun x114 => bd (idx d.rules ((k119 : Nat) : Int)) fun x169 => bd (M_laws_szRule x169 x114) fun r198 => if (decide (r198 < 0)) = true then some (.ret (-1)) else some (.next r198))))
   (fun k s => (left_ s ∧ s + (((d.rules.take k).map mR).sum : Nat) ≤ left - d.rules.length + 4 * (k : Int) ∧ s ≤ left - d.rules.length) ∧ ∀ j (hj : j < d.rules.length), j < k → SmR d.rules[j]) (fun r => r < 0) (n := d.rules.length) (fun k s hk hi => by
    obtain ⟨r, e, g⟩ := szw_rule hi.1.1 (hd.each _ (gE_ hk))
    rw [ix_ hk, bd_some, e, bd_some]
    by_cases h0 : r < 0
    ·rw [dT_ h0]; exact .inr ⟨_, rfl, by omega⟩
    ·rw [dF_ h0]
     have g := g.resolve_left h0
     have g3 := g.2.2
     have h4 : 4 ≤ mR d.rules[k] := by unfold mR; omega
     refine .inl ⟨_, rfl, ⟨g.1, ?_, by omega⟩, fun j hj hjk => ?_⟩
     ·rw [take_snoc hk, List.map_append, List.sum_append]
      simp only [List.map_cons, List.map_nil, List.sum_cons, List.sum_nil]
      omega
     by_cases hjk' : j < k
     ·exact hi.2 j hj hjk'
     ·have : j = k := by omega
      subst this
      exact g.2.1) d.rules.length 0 (left - d.rules.length) (by omega) ⟨⟨by unfold left_; omega, by simp, by omega⟩, fun j _ h => by omega⟩ with ⟨s, h1, h2⟩ | ⟨r, h1, h2⟩
 ·rw [h1]
  simp only [bd_some, el_inl]
  obtain ⟨⟨h3, h4, h5⟩, h6⟩ := h2
  rw [List.take_length] at h4
  rw [dF_ (by have := h3.1; omega)]
  exact ⟨s, rfl, .inr ⟨h3, ⟨by omega, fun r hr => by
   obtain ⟨j, hj, rfl⟩ := List.getElem_of_mem hr
   exact h6 j hj hj⟩, by unfold mD; omega⟩⟩
 ·rw [h1]
  simp only [bd_some, el_inr]
  rw [dT_ h2]
  exact ⟨_, rfl, .inl (by omega)⟩
theorem szw_descs {l : List Desc} {left : Int} (hl : left_ left) (hn : l.length ≤ LEN) (hd : ∀ d ∈ l, LnD d) : ∃ r, M_laws_szDescriptionS l left = some r ∧ (r < 0 ∨ (left_ r ∧ l.length ≤ MX ∧ (∀ d ∈ l, SmD d) ∧ 4 * r + ((l.map mD).sum : Nat) ≤ 4 * left)) := by
 have hMX := MXv; have hLEN := LENv
 have hl' := hl
 unfold left_ at hl'
 unfold M_laws_szDescriptionS
 rw [isub_of (by omega) (by omega)]
 by_cases h : left - (l.length : Int) < 0
 ·rw [dT_ h]; exact ⟨_, rfl, .inl (by omega)⟩
 rw [dF_ h]
 simp only [bF_, fF_]
 rcases forN_inv (σ := Int) (ρ := Int) (body := (fun k89 => (fun x84 => bd (idx l ((k89 : Nat) : Int)) fun x124 => bd (M_laws_szDescription x124 x84) fun r138 => if (decide (r138 < 0)) = true then some (.ret (-1)) else some (.next r138))))
   (fun k s => (left_ s ∧ 4 * s + (((l.take k).map mD).sum : Nat) ≤ 4 * (left - l.length)) ∧ ∀ j (hj : j < l.length), j < k → SmD l[j]) (fun r => r < 0) (n := l.length) (fun k s hk hi => by
    obtain ⟨r, e, g⟩ := szw_desc hi.1.1 (hd _ (gE_ hk))
    rw [ix_ hk, bd_some, e, bd_some]
    by_cases h0 : r < 0
    ·rw [dT_ h0]; exact .inr ⟨_, rfl, by omega⟩
    ·rw [dF_ h0]
     have g := g.resolve_left h0
     have g3 := g.2.2
     refine .inl ⟨_, rfl, ⟨g.1, ?_⟩, fun j hj hjk => ?_⟩
     ·rw [take_snoc hk, List.map_append, List.sum_append]
      simp only [List.map_cons, List.map_nil, List.sum_cons, List.sum_nil]
      omega
     by_cases hjk' : j < k
     ·exact hi.2 j hj hjk'
     ·have : j = k := by omega
      subst this
      exact g.2.1) l.length 0 (left - l.length) (by omega) ⟨⟨by unfold left_; omega, by simp⟩, fun j _ h => by omega⟩ with ⟨s, h1, h2⟩ | ⟨r, h1, h2⟩
 ·rw [h1]
  obtain ⟨⟨h3, h4⟩, h6⟩ := h2
  rw [List.take_length] at h4
  exact ⟨s, rfl, .inr ⟨h3, by omega, fun r hr => by
   obtain ⟨j, hj, rfl⟩ := List.getElem_of_mem hr
   exact h6 j hj hj, by omega⟩⟩
 ·rw [h1]; exact ⟨r, rfl, .inl h2⟩
def mA (a : Archive) : Nat := (a.registry.versions.map mD).sum + a.log.bytes.length
theorem sz_archive {a : Archive} (ha : LnA a) : ∃ r, M_laws_szArchive a 1048576 = some r ∧ (r < 0 ∨ (left_ r ∧ SmA a ∧ a.log.bytes.length ≤ MX ∧ mA a ≤ 4194304)) := by
 have hMX := MXv; have hML := MLv
 obtain ⟨r1, e1, g1⟩ := szw_descs (l := a.registry.versions) (left := 1048576) ⟨by omega, by omega⟩ ha.len ha.each
 unfold M_laws_szArchive M_laws_szRegistry M_laws_szLog
 simp only
 rw [e1, bd_some]
 by_cases h1 : r1 < 0
 ·rw [dT_ h1]; exact ⟨_, rfl, .inl (by omega)⟩
 have g1 := g1.resolve_left h1
 obtain ⟨r2, e2, g2⟩ := szw_byte (a := a.log.bytes) g1.1 ha.bytes
 rw [dF_ h1]
 simp only [bF_, fF_, bd_some]
 rw [dF_ h1]
 simp only [bF_, fF_, e2, bd_some]
 by_cases h2 : r2 < 0
 ·rw [dT_ h2]; exact ⟨_, rfl, .inl (by omega)⟩
 have g2 := g2.resolve_left h2
 rw [dF_ h2]
 simp only [bF_, fF_, bd_some]
 rw [dF_ h2]
 exact ⟨_, rfl, .inr ⟨g2.1, ⟨g1.2.1, g1.2.2.1, by omega⟩, g2.2.1, by
  have := g1.2.2.2; have := g2.2.2
  unfold mA; omega⟩⟩
theorem to_descs {l : List Desc} (hl : l.length ≤ MX) (hd : ∀ d ∈ l, SmD d) : M_laws_toDescriptionS l = some l := by
 have := MXv; have := LIMv
 unfold M_laws_toDescriptionS
 rw [mk0_of (by omega), bd_some, copy_loop _ (fun k hk c hc => by rw [ix_ hk, bd_some, to_desc (hd _ (gE_ hk)), bd_some, upd_nat (by omega), bd_some])]; rfl
theorem to_archive {a : Archive} (ha : SmA a) (hb : a.log.bytes.length ≤ MX) : M_laws_toArchive a = some a := by
 unfold M_laws_toArchive M_laws_toRegistry M_laws_toLog
 simp only [to_descs ha.len ha.each, to_byte hb, bd_some]
theorem eq_descs (l : List Desc) : M_laws_eqDescriptionS l l = some true := by
 unfold M_laws_eqDescriptionS
 rw [forN_next (fun _ => ()) (n := l.length) (fun j hj => by rw [ix_ hj]; simp only [bd_some, eq_desc, nT_, bF_, fF_])]
 simp
theorem eq_archive (a : Archive) : M_laws_eqArchive a a = some true := by
 unfold M_laws_eqArchive M_laws_eqRegistry M_laws_eqLog
 simp only [eq_descs, eq_byte, bd_some, bN_, nT_, bF_, fF_]
def markA (n : Nat) (a : Archive) (k : Int) : Archive × Int :=
 (⟨⟨mkL (fD n) a.registry.versions k⟩, ⟨(List.range a.log.bytes.length).map (fun (i : Nat) => mkB (mkK (fD n) a.registry.versions k + i)), a.log.stored⟩⟩, mkK (fD n) a.registry.versions k + a.log.bytes.length)
theorem markA_two (n : Nat) (a : Archive) (k : Int) : (markA n a k).2 = k + mA a := by
 unfold markA mA
 rw [mkK_sum _ mD (fD_two n)]; simp only; omega
theorem mark_archive {a : Archive} (ha : SmA a) {n : Nat} (hn : 1100000 ≤ n) {k : Int} (h0 : 0 ≤ k) (hk : k + mA a ≤ 1152921504606846976) : M_laws_markArchive n a k = some ((markA n a k).2, (markA n a k).1.registry.versions, (markA n a k).1.log.bytes) := by
 have hMX := MXv; have hML := MLv; have hb := ha.bytes
 unfold mA at hk
 unfold M_laws_markArchive M_laws_markRegistry M_laws_markLog
 simp only
 rw [marks_descs ha.len ha.each (by omega) h0 (by omega)]
 simp only [bd2_some]
 have hx := mkK_sum _ mD (fD_two n) a.registry.versions k
 rw [mark_byte (by omega) (by omega) (by omega)]
 rfl
theorem held_archive {a : Archive} {n : Nat} (hn : 1100000 ≤ n) {k : Int} (h0 : 0 ≤ k) (hk : k + mA a ≤ 1152921504606846976) : M_laws_heldArchive n (markA n a k).1 k = some (markA n a k).2 := by
 unfold mA at hk
 have hx := mkK_sum _ mD (fD_two n) a.registry.versions k
 unfold M_laws_heldArchive M_laws_heldRegistry M_laws_heldLog markA
 simp only
 rw [held_descs (by omega) h0 (by omega), bd_some, dF_ (by omega)]
 simp only [bF_, fF_, bd_some]
 rw [dF_ (by omega)]
 simp only [bF_, fF_]
 rw [held_bytesK (by omega) (by omega), bd_some, dF_ (by omega)]
 simp only [bF_, fF_, bd_some]
 rw [dF_ (by omega)]
 rfl
end Go.Vw
