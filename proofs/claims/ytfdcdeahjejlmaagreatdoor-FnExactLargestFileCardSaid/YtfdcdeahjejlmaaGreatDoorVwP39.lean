import Derived.Test.YtfdcdeahjejlmaaGreatDoorVwP38
namespace Go.Vw
open Go.RowKit Dat
structure LnA (a : Archive) : Prop where
 len : a.registry.versions.length ≤ LEN
 each : ∀ d ∈ a.registry.versions, LnD d
 bytes : a.log.bytes.length ≤ LEN
theorem sz_descL {d : Desc} {left : Int} (hl : left_ left) (hd : LnD d) : ∃ r, M_laws_szDescription d left = some r ∧ (r < 0 ∨ (left_ r ∧ SmD d)) := by
 have hMX := MXv; have hLEN := LENv
 have hr := hd.rules
 have hl' := hl
 unfold left_ at hl'
 unfold M_laws_szDescription M_laws_szRuleS
 rw [isub_of (by omega) (by omega)]
 by_cases h : left - (d.rules.length : Int) < 0
 ·rw [dT_ h]; exact ⟨_, rfl, .inl (by omega)⟩
 rw [dF_ h]
 simp only [bF_, fF_]
 rcases forN_inv (σ := Int) (ρ := Int) (body := (fun k119 => (fun x114 => bd (idx d.rules ((k119 : Nat) : Int)) fun x169 => bd (M_laws_szRule x169 x114) fun r198 => if (decide (r198 < 0)) = true then some (.ret (-1)) else some (.next r198))))
   (fun k s => left_ s ∧ ∀ j (hj : j < d.rules.length), j < k → SmR d.rules[j]) (fun r => r < 0) (n := d.rules.length) (fun k s hk hi => by
    obtain ⟨r, e, g⟩ := sz_rule hi.1 (hd.each _ (gE_ hk))
    rw [ix_ hk, bd_some, e, bd_some]
    by_cases h0 : r < 0
    ·rw [dT_ h0]; exact .inr ⟨_, rfl, by omega⟩
    ·rw [dF_ h0]
     have g := g.resolve_left h0
     refine .inl ⟨_, rfl, g.1, fun j hj hjk => ?_⟩
     by_cases hjk' : j < k
     ·exact hi.2 j hj hjk'
     ·have : j = k := by omega
      subst this
      exact g.2) d.rules.length 0 (left - d.rules.length) (by omega) ⟨by unfold left_; omega, fun j _ h => by omega⟩ with ⟨s, h1, h2⟩ | ⟨r, h1, h2⟩
 ·rw [h1]
  simp only [bd_some, el_inl]
  rw [dF_ (by have := h2.1.1; omega)]
  exact ⟨s, rfl, .inr ⟨h2.1, by omega, fun r hr => by
   obtain ⟨j, hj, rfl⟩ := List.getElem_of_mem hr
   exact h2.2 j hj hj⟩⟩
 ·rw [h1]
  simp only [bd_some, el_inr]
  rw [dT_ h2]
  exact ⟨_, rfl, .inl (by omega)⟩
theorem sz_descs {l : List Desc} {left : Int} (hl : left_ left) (hn : l.length ≤ LEN) (hd : ∀ d ∈ l, LnD d) : ∃ r, M_laws_szDescriptionS l left = some r ∧ (r < 0 ∨ (left_ r ∧ l.length ≤ MX ∧ ∀ d ∈ l, SmD d)) := by
 have hMX := MXv; have hLEN := LENv
 have hl' := hl
 unfold left_ at hl'
 unfold M_laws_szDescriptionS
 rw [isub_of (by omega) (by omega)]
 by_cases h : left - (l.length : Int) < 0
 ·rw [dT_ h]; exact ⟨_, rfl, .inl (by omega)⟩
 rw [dF_ h]
 simp only [bF_, fF_]
 rcases forN_inv (σ := Int) (ρ := Int) (body := (fun k89 => (fun x84 => bd (idx l ((k89 : Nat) : Int)) fun x124 => bd (M_laws_szDescription x124 x84) fun r138 => if (decide (r138 < 0)) = true then some (.ret (-1)) else some (.next r138))))
   (fun k s => left_ s ∧ ∀ j (hj : j < l.length), j < k → SmD l[j]) (fun r => r < 0) (n := l.length) (fun k s hk hi => by
    obtain ⟨r, e, g⟩ := sz_descL hi.1 (hd _ (gE_ hk))
    rw [ix_ hk, bd_some, e, bd_some]
    by_cases h0 : r < 0
    ·rw [dT_ h0]; exact .inr ⟨_, rfl, by omega⟩
    ·rw [dF_ h0]
     have g := g.resolve_left h0
     refine .inl ⟨_, rfl, g.1, fun j hj hjk => ?_⟩
     by_cases hjk' : j < k
     ·exact hi.2 j hj hjk'
     ·have : j = k := by omega
      subst this
      exact g.2) l.length 0 (left - l.length) (by omega) ⟨by unfold left_; omega, fun j _ h => by omega⟩ with ⟨s, h1, h2⟩ | ⟨r, h1, h2⟩
 ·rw [h1]
  exact ⟨s, rfl, .inr ⟨h2.1, by omega, fun r hr => by
   obtain ⟨j, hj, rfl⟩ := List.getElem_of_mem hr
   exact h2.2 j hj hj⟩⟩
 ·rw [h1]; exact ⟨r, rfl, .inl h2⟩
theorem sz_archive {a : Archive} (ha : LnA a) : ∃ r, M_laws_szArchive a 1048576 = some r ∧ (r < 0 ∨ (left_ r ∧ SmA a)) := by
 obtain ⟨r1, e1, g1⟩ := sz_descs (l := a.registry.versions) (left := 1048576) ⟨by omega, by omega⟩ ha.len ha.each
 unfold M_laws_szArchive M_laws_szRegistry M_laws_szLog
 simp only
 rw [e1, bd_some]
 by_cases h1 : r1 < 0
 ·rw [dT_ h1]; exact ⟨_, rfl, .inl (by omega)⟩
 have g1 := g1.resolve_left h1
 obtain ⟨r2, e2, g2⟩ := sz_byte (a := a.log.bytes) g1.1 ha.bytes
 rw [dF_ h1]
 simp only [bF_, fF_, bd_some]
 rw [dF_ h1]
 simp only [bF_, fF_, e2, bd_some]
 by_cases h2 : r2 < 0
 ·rw [dT_ h2]; exact ⟨_, rfl, .inl (by omega)⟩
 have g2 := g2.resolve_left h2
 rw [dF_ h2]
 simp only [bF_, fF_, bd_some]
 rw [dF_ h2]
 exact ⟨_, rfl, .inr ⟨g2.1, g1.2.1, g1.2.2, g2.2⟩⟩
theorem to_descs {l : List Desc} (hl : l.length ≤ MX) (hd : ∀ d ∈ l, SmD d) : M_laws_toDescriptionS l = some l := by
 have := MXv; have := LIMv
 unfold M_laws_toDescriptionS
 rw [mk0_of (by omega), bd_some, copy_loop _ (fun k hk c hc => by rw [ix_ hk, bd_some, to_desc (hd _ (gE_ hk)), bd_some, upd_nat (by omega), bd_some])]; rfl
theorem to_archive {a : Archive} (ha : SmA a) : M_laws_toArchive a = some a := by
 unfold M_laws_toArchive M_laws_toRegistry M_laws_toLog
 simp only [to_descs ha.len ha.each, to_byte ha.bytes, bd_some]
theorem eq_descs (l : List Desc) : M_laws_eqDescriptionS l l = some true := by
 unfold M_laws_eqDescriptionS
 rw [forN_next (fun _ => ()) (n := l.length) (fun j hj => by rw [ix_ hj]; simp only [bd_some, eq_desc, nT_, bF_, fF_])]
 simp
theorem eq_archive (a : Archive) : M_laws_eqArchive a a = some true := by
 unfold M_laws_eqArchive M_laws_eqRegistry M_laws_eqLog
 simp only [eq_descs, eq_byte, bd_some, bN_, nT_, bF_, fF_]
theorem law_LargestFile {n : Nat} (hn : 4000000 ≤ n) {a : Archive} (ha : LnA a) : M_laws_FnExactLargestFile n a = some true := by
 unfold M_laws_FnExactLargestFile
 obtain ⟨r, hr, hr2⟩ := sz_archive ha
 rw [hr, bd_some]
 by_cases h2 : r < 0
 ·rw [dT_ h2]; rfl
 rw [dF_ h2]
 have hs := (hr2.resolve_left h2).2
 simp only [bF_, fF_, to_archive hs, bd_some, spec_Largest hs (show 1048600 ≤ n by omega), impl_Largest hs (show 1048600 ≤ n by omega), eq_archive, bN_, nT_]
end Go.Vw
