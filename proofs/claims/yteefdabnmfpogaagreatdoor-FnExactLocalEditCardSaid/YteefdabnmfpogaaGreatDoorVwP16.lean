import Derived.Test.YteefdabnmfpogaaGreatDoorVwP15
namespace Go.Vw
open Go.RowKit Dat
theorem hasText_iff {l : List Str} {s : Str} : hasText l s = true ↔ ∃ x ∈ l, x.b = s.b := by
 unfold hasText; simp
structure Ent (d : Desc) (b : List UInt8) (r : Rule) (at_ : Nat) (ks : List Int) (num : Int) : Prop where
 head : headC d.rules b r at_ = .inr (num, ks, startP d.rules r at_)
 lo : 5 ≤ r.kind
 hi : r.kind ≤ 9
section
variable {d : Desc} {b : List UInt8}
theorem enter_ok (hb : b.length ≤ 400) {r : Rule} (hk : kindOk d.rules r = true) {at_ : Nat} (ha : at_ ≤ b.length) {ks : List Int} {num : Int} (h : Ent d b r at_ ks num) (hne : ks ≠ []) (hpos : ∀ k ∈ ks, 0 ≤ k) : M_spec_l20Enter d r b at_ = some (((startP d.rules r at_ : Nat) : Int), (ks.length : Int), num) := by
 have hMX := MXv
 have hh := h.head
 obtain ⟨hitem, hst, hn9⟩ := headC_item hk ⟨h.lo, h.hi⟩ hh
 have h1 := h.lo
 have h2 := h.hi
 clear hst
 unfold M_spec_l20Enter
 by_cases h6 : r.kind = 6
 ·rw [h6]
  simp only [beq_self_eq_true, if_true]
  unfold headC at hh
  rw [h6] at hh
  simp only [show ((6 : Int) == 5) = false from rfl, Bool.false_eq_true, if_false, beq_self_eq_true, if_true] at hh
  rw [Sum.inr.injEq, Prod.mk.injEq, Prod.mk.injEq] at hh
  rw [← hh.1, ← hh.2.1, ← hh.2.2]
 rw [show (r.kind == 6) = false by simpa using h6]
 simp only [Bool.false_eq_true, if_false]
 by_cases h9 : r.kind = 9
 ·rw [h9]
  simp only [beq_self_eq_true, if_true]
  unfold headC at hh
  rw [h9] at hh
  simp only [show ((9 : Int) == 5) = false from rfl, show ((9 : Int) == 6) = false from rfl, show ((9 : Int) == 7) = false from rfl, show ((9 : Int) == 8) = false from rfl, Bool.false_eq_true, if_false] at hh
  rw [Sum.inr.injEq, Prod.mk.injEq, Prod.mk.injEq] at hh
  rw [← hh.1, ← hh.2.1, ← hh.2.2]; rfl
 rw [show (r.kind == 9) = false by simpa using h9]
 simp only [Bool.false_eq_true, if_false]
 by_cases h8 : r.kind = 8
 ·rw [h8]
  simp only [beq_self_eq_true, if_true]
  unfold headC at hh
  rw [h8] at hh
  simp only [show ((8 : Int) == 5) = false from rfl, show ((8 : Int) == 6) = false from rfl, show ((8 : Int) == 7) = false from rfl, Bool.false_eq_true, if_false, beq_self_eq_true, if_true] at hh
  cases hc : b[at_]? with
  | none => rw [hc] at hh; cases hh
  | some c =>
   rw [hc] at hh
   simp only at hh
   split at hh
   ·cases hh
   ·rename_i hc1
    rw [Sum.inr.injEq, Prod.mk.injEq, Prod.mk.injEq] at hh
    have hlt : at_ < b.length := (List.getElem?_eq_some_iff.1 hc).1
    have hbc : byteI c = (c.toNat : Int) := rfl
    have hc0 : c.toNat ≠ 0 := fun h0 => by
     apply hne; rw [← hh.2.1, h0]; rfl
    have hc1' : c.toNat = 1 := by omega
    rw [decide_eq_true (show (at_ : Int) < (b.length : Int) by omega), idx_get hlt]
    have : b[at_] = c := (List.getElem?_eq_some_iff.1 hc).2
    rw [this]
    simp only [if_true, bd_some]
    rw [show (byteI c == byteI (1 : UInt8)) = true by rw [hbc, hc1']; rfl]
    simp only [if_true, bd_some, el_inr]
    rw [← hh.1, ← hh.2.1, ← hh.2.2, iadd_of (by omega) (by omega), hc1']; rfl
 rw [show (r.kind == 8) = false by simpa using h8]
 simp only [Bool.false_eq_true, if_false]
 have h57 : r.kind = 5 ∨ r.kind = 7 := by omega
 have hlim : 0 < lim d.rules (kid0 r) ∧ 0 < r.kids.length := by
  rcases h57 with h | h
  ·have := k_array hk h; exact ⟨this.1, by omega⟩
  ·have := k_choice hk h; exact ⟨this.1, by omega⟩
 have hq := lim_int hlim.1
 have hint := spec_l11Integer (b := b) hq.1 hq.2 (by omega) ha
 have e57 : bd (α := Bool) (if (r.kind == 5) = true then some (r.kind == 5) else some (r.kind == 7)) some = some true := by
  rcases h57 with h | h <;> rw [h] <;> rfl
 have e57' : (if (r.kind == 5) = true then some (r.kind == 5) else some (r.kind == 7)) = some true := by
  rcases h57 with h | h <;> rw [h] <;> rfl
 rw [e57']
 simp only [bd_some, if_true]
 rw [kid0_idx hlim.2, bd_some, hint]
 cases hi : rdInt b (ruleAt d.rules (kid0 r)) at_ with
 | none =>
  exfalso
  unfold headC at hh
  rcases h57 with h | h <;> rw [h, hi] at hh <;> cases hh
 | some n =>
  simp only [bd3_some, Bool.not_true, Bool.false_eq_true, if_false]
  have hrng := rdInt_range hq.2 hi
  rcases h57 with h5 | h7
  ·unfold headC at hh
   rw [h5, hi] at hh
   simp only [beq_self_eq_true, if_true] at hh
   split at hh
   ·cases hh
   ·rename_i hn
    rw [Sum.inr.injEq, Prod.mk.injEq, Prod.mk.injEq] at hh
    rw [h5, decide_eq_true (show n ≤ 40 by omega)]
    simp only [beq_self_eq_true, if_true, bd_some, el_inr]
    rw [← hh.1, ← hh.2.1, ← hh.2.2, List.length_replicate]
    simp; omega
  ·unfold headC at hh
   rw [h7, hi] at hh
   simp only [show ((7 : Int) == 5) = false from rfl, show ((7 : Int) == 6) = false from rfl, Bool.false_eq_true, if_false, beq_self_eq_true, if_true] at hh
   cases ht : tagIx r.tags n with
   | none => rw [ht] at hh; cases hh
   | some j =>
    rw [ht] at hh
    simp only at hh
    rw [Sum.inr.injEq, Prod.mk.injEq, Prod.mk.injEq] at hh
    have hl1 : ks.length = 1 := by rw [← hh.2.1]; rfl
    have hi0 := hitem 0 (by omega)
    have hp0 := hpos ks[0] (List.getElem_mem (by omega))
    rw [hh.1]
    have hl9 := spec_l9Item (k_kids hk) num 0
    rw [hi0] at hl9
    rw [h7]
    simp only [show ((7 : Int) == 5) = false from rfl, Bool.false_eq_true, if_false, bd_some, beq_self_eq_true, if_true]
    have hl9' : M_spec_l9Item r num 0 = some ks[0] := hl9
    rw [hl9', bd_some, decide_eq_true hp0]
    simp only [bd_some, if_true, el_inr]
    rw [← hh.2.2, hl1]; rfl
end
end Go.Vw
