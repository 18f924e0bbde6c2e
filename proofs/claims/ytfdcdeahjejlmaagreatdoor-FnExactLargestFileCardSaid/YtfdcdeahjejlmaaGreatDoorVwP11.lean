import Derived.Test.YtfdcdeahjejlmaaGreatDoorVwP10
namespace Go.Vw
open Go.RowKit Dat
theorem forN_inv {σ ρ : Type} {body : Nat → σ → Option (Out σ ρ)} (I : Nat → σ → Prop) (R : ρ → Prop) {n : Nat} (h : ∀ k s, k < n → I k s → (∃ s', body k s = some (.next s') ∧ I (k + 1) s') ∨ (∃ r, body k s = some (.ret r) ∧ R r)) :
  ∀ m k s, k + m = n → I k s → (∃ s', forN body m k s = some (.inl s') ∧ I n s') ∨ (∃ r, forN body m k s = some (.inr r) ∧ R r)
 | 0, k, s, hk, hi => .inl ⟨s, rfl, by rw [← hk]; exact hi⟩
 | m + 1, k, s, hk, hi => by
  unfold forN
  rcases h k s (by omega) hi with ⟨s', h1, h2⟩ | ⟨r, h1, h2⟩
  ·rw [h1]; exact forN_inv I R h m (k + 1) s' (by omega) h2
  ·rw [h1]; exact .inr ⟨r, rfl, h2⟩
structure LnR (r : Rule) : Prop where
 name : r.name.b.length ≤ LEN
 bytes : r.bytes.length ≤ LEN
 names : r.names.length ≤ LEN
 tags : r.tags.length ≤ LEN
 kids : r.kids.length ≤ LEN
 each : ∀ s ∈ r.names, s.b.length ≤ LEN
structure LnD (d : Desc) : Prop where
 rules : d.rules.length ≤ LEN
 each : ∀ r ∈ d.rules, LnR r
theorem LENv : LEN = 140737488355328 := rfl
def left_ (l : Int) : Prop := 0 ≤ l ∧ l ≤ 1048576
theorem sz_one {α : Type} (a : List α) {left : Int} (hl : left_ left) (ha : a.length ≤ LEN) : (if (decide ((isub left (a.length : Int)) < 0)) = true then some (-1) else some (isub left (a.length : Int))) = some (if left < a.length then -1 else left - a.length) := by
 have := LENv
 unfold left_ at hl
 rw [isub_of (by omega) (by omega)]
 by_cases h : left < a.length
 ·rw [dT_ (by omega), iP_ h]; rfl
 ·rw [dF_ (by omega), iN_ h]; rfl
theorem sz_byte {a : List UInt8} {left : Int} (hl : left_ left) (ha : a.length ≤ LEN) : ∃ r, M_laws_szByteS a left = some r ∧ (r < 0 ∨ (left_ r ∧ a.length ≤ MX)) := by
 have := MXv
 refine ⟨_, sz_one a hl ha, ?_⟩
 unfold left_ at *
 split <;> omega
theorem sz_int {a : List Int} {left : Int} (hl : left_ left) (ha : a.length ≤ LEN) : ∃ r, M_laws_szIntS a left = some r ∧ (r < 0 ∨ (left_ r ∧ a.length ≤ MX)) := by
 have := MXv
 refine ⟨_, sz_one a hl ha, ?_⟩
 unfold left_ at *
 split <;> omega
theorem sz_string {a : List Str} {left : Int} (hl : left_ left) (ha : a.length ≤ LEN) (he : ∀ s ∈ a, s.b.length ≤ LEN) : ∃ r, M_laws_szStringS a left = some r ∧ (r < 0 ∨ (left_ r ∧ a.length ≤ MX ∧ ∀ s ∈ a, s.b.length ≤ MX)) := by
 have hMX := MXv; have hLEN := LENv
 unfold M_laws_szStringS
 unfold left_ at *
 rw [isub_of (by omega) (by omega)]
 by_cases h : left < a.length
 ·rw [dT_ (by omega)]; exact ⟨_, rfl, .inl (by omega)⟩
 ·rw [dF_ (by omega)]
  simp only [bF_, fF_]
  rcases forN_inv (σ := Int) (ρ := Int) (body := (fun k67 => (fun x62 => bd (idx a ((k67 : Nat) : Int)) fun x91 => if (decide ((isub x62 (x91.b.length : Int)) < 0)) = true then some (.ret (-1)) else some (.next (isub x62 (x91.b.length : Int))))))
   (fun k s => (0 ≤ s ∧ s ≤ 1048576) ∧ ∀ j (hj : j < a.length), j < k → a[j].b.length ≤ MX) (fun r => r < 0) (n := a.length) (fun k s hk hi => by
    have hx := he _ (gE_ hk)
    rw [ix_ hk, bd_some, isub_of (by omega) (by omega)]
    by_cases h0 : s - (a[k].b.length : Int) < 0
    ·rw [dT_ h0]; exact .inr ⟨_, rfl, by omega⟩
    ·rw [dF_ h0]
     refine .inl ⟨_, rfl, by omega, fun j hj hjk => ?_⟩
     by_cases hjk' : j < k
     ·exact hi.2 j hj hjk'
     ·have : j = k := by omega
      subst this
      omega) a.length 0 (left - a.length) (by omega) ⟨by omega, fun j _ h => by omega⟩ with ⟨s, h1, h2⟩ | ⟨r, h1, h2⟩
  ·rw [h1]
   exact ⟨s, rfl, .inr ⟨h2.1, by omega, fun t ht => by
    obtain ⟨j, hj, rfl⟩ := List.getElem_of_mem ht
    exact h2.2 j hj hj⟩⟩
  ·rw [h1]; exact ⟨r, rfl, .inl h2⟩
theorem sz_rule {a : Rule} {left : Int} (hl : left_ left) (ha : LnR a) : ∃ r, M_laws_szRule a left = some r ∧ (r < 0 ∨ (left_ r ∧ SmR a)) := by
 have hMX := MXv; have hLEN := LENv
 have hn := ha.name
 unfold M_laws_szRule
 rw [isub_of (by unfold left_ at hl; omega) (by unfold left_ at hl; omega)]
 by_cases h : left - (a.name.b.length : Int) < 0
 ·rw [dT_ h]; exact ⟨_, rfl, .inl (by omega)⟩
 rw [dF_ h]
 have h0 : left_ (left - (a.name.b.length : Int)) := by unfold left_ at *; omega
 obtain ⟨r1, e1, g1⟩ := sz_byte (a := a.bytes) h0 ha.bytes
 simp only [bF_, fF_]
 rw [e1, bd_some]
 by_cases k1 : r1 < 0
 ·rw [dT_ k1]; exact ⟨_, rfl, .inl (by omega)⟩
 rw [dF_ k1]
 have g1 := g1.resolve_left k1
 obtain ⟨r2, e2, g2⟩ := sz_string (a := a.names) g1.1 ha.names ha.each
 simp only [bF_, fF_]
 rw [e2, bd_some]
 by_cases k2 : r2 < 0
 ·rw [dT_ k2]; exact ⟨_, rfl, .inl (by omega)⟩
 rw [dF_ k2]
 have g2 := g2.resolve_left k2
 obtain ⟨r3, e3, g3⟩ := sz_int (a := a.tags) g2.1 ha.tags
 simp only [bF_, fF_]
 rw [e3, bd_some]
 by_cases k3 : r3 < 0
 ·rw [dT_ k3]; exact ⟨_, rfl, .inl (by omega)⟩
 rw [dF_ k3]
 have g3 := g3.resolve_left k3
 obtain ⟨r4, e4, g4⟩ := sz_int (a := a.kids) g3.1 ha.kids
 simp only [bF_, fF_]
 rw [e4, bd_some]
 by_cases k4 : r4 < 0
 ·rw [dT_ k4]; exact ⟨_, rfl, .inl (by omega)⟩
 rw [dF_ k4]
 have g4 := g4.resolve_left k4
 exact ⟨_, rfl, .inr ⟨g4.1, ⟨by unfold left_ at hl; omega, g1.2, g2.2.1, g3.2, g4.2, g2.2.2⟩⟩⟩
theorem take_set_drop {α : Type} {l : List α} {z : α} {j : Nat} (hj : j < l.length) : (l.take j ++ List.replicate (l.length - j) z).set j l[j] = l.take (j + 1) ++ List.replicate (l.length - (j + 1)) z := by
 rw [List.set_append_right _ _ (by simp; omega)]
 rw [show j - (l.take j).length = 0 by simp; omega, show l.length - j = (l.length - (j + 1)) + 1 by omega, List.replicate_succ, List.set_cons_zero, List.take_add_one, gG_ hj, Option.toList_some, List.append_assoc]
 rfl
theorem copy_loop {α ρ : Type} {l : List α} {z : α} (body : Nat → List α → Option (Out (List α) ρ)) (hb : ∀ k (hk : k < l.length) (c : List α), c.length = l.length → body k c = some (.next (c.set k l[k]))) :
  forN body l.length 0 (List.replicate l.length z) = some (.inl l) := by
 have h := forN_next (n := l.length) (body := body) (fun k => l.take k ++ List.replicate (l.length - k) z) (fun j hj => by
  rw [hb j hj _ (by simp; omega), take_set_drop hj])
 simpa using h
theorem to_byte {l : List UInt8} (hl : l.length ≤ MX) : M_laws_toByteS l = some l := by
 have := MXv; have := LIMv
 unfold M_laws_toByteS
 rw [mk0_of (by omega), bd_some, copy_loop _ (fun k hk c hc => by rw [ix_ hk, bd_some, upd_nat (by omega), bd_some])]; rfl
theorem to_int {l : List Int} (hl : l.length ≤ MX) : M_laws_toIntS l = some l := by
 have := MXv; have := LIMv
 unfold M_laws_toIntS
 rw [mk0_of (by omega), bd_some, copy_loop _ (fun k hk c hc => by rw [ix_ hk, bd_some, upd_nat (by omega), bd_some])]; rfl
theorem to_string {l : List Str} (hl : l.length ≤ MX) : M_laws_toStringS l = some l := by
 have := MXv; have := LIMv
 unfold M_laws_toStringS
 rw [mk0_of (by omega), bd_some, copy_loop _ (fun k hk c hc => by rw [ix_ hk, bd_some, upd_nat (by omega), bd_some])]; rfl
theorem to_rule {r : Rule} (hr : SmR r) : M_laws_toRule r = some r := by
 unfold M_laws_toRule
 rw [to_byte hr.bytes, bd_some, to_string hr.names, bd_some, to_int hr.tags, bd_some, to_int hr.kids, bd_some]
theorem to_desc {d : Desc} (hd : SmD d) : M_laws_toDescription d = some d := by
 have := MXv; have := LIMv; have := hd.rules
 unfold M_laws_toDescription M_laws_toRuleS
 rw [mk0_of (by omega), bd_some, copy_loop _ (fun k hk c hc => by rw [ix_ hk, bd_some, to_rule (hd.each _ (gE_ hk)), bd_some, upd_nat (by omega), bd_some])]; rfl
theorem eq_int (l : List Int) : M_laws_eqIntS l l = some true := by
 unfold M_laws_eqIntS
 rw [forN_next (fun _ => ()) (n := l.length) (fun j hj => by rw [ix_ hj]; simp only [bd_some, bN_, bF_, fF_])]
 simp
theorem eq_byte (l : List UInt8) : M_laws_eqByteS l l = some true := by
 unfold M_laws_eqByteS
 rw [forN_next (fun _ => ()) (n := l.length) (fun j hj => by rw [ix_ hj]; simp only [bd_some, bN_, bF_, fF_])]
 simp
theorem eq_string (l : List Str) : M_laws_eqStringS l l = some true := by
 unfold M_laws_eqStringS
 rw [forN_next (fun _ => ()) (n := l.length) (fun j hj => by rw [ix_ hj]; simp only [bd_some, bN_, bF_, fF_])]
 simp
theorem eq_rule (r : Rule) : M_laws_eqRule r r = some true := by
 unfold M_laws_eqRule
 simp only [eq_int, eq_byte, eq_string, bd_some, bN_, bF_, fF_, nT_]
theorem eq_desc (d : Desc) : M_laws_eqDescription d d = some true := by
 unfold M_laws_eqDescription M_laws_eqRuleS
 rw [forN_next (fun _ => ()) (n := d.rules.length) (fun j hj => by rw [ix_ hj]; simp only [bd_some, eq_rule, nT_, bF_, fF_])]
 simp
end Go.Vw
