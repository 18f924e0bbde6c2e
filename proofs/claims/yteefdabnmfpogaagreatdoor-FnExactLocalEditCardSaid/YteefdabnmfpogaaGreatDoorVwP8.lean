import Derived.Test.YteefdabnmfpogaaGreatDoorVwP7
namespace Go.Vw
open Go.RowKit Dat
section
variable {d : Desc} {b : List UInt8}
theorem finC_zV {r : Rule} {num : Int} {p : Nat} {x : List Val × Nat × Int} (h : (finC b r num p x).2.2 ≠ 0) : (finC b r num p x).1 = zV := by
 unfold finC at *
 split
 ·rename_i h0
  rw [if_pos h0] at h
  split
  ·rename_i h9
   rw [if_pos h9] at h
   cases hb : b[x.2.1]? with
   | none => rfl
   | some c =>
    rw [hb] at h
    simp only at h ⊢
    split
    ·rename_i hs; rw [if_pos hs] at h; exact absurd rfl h
    ·rfl
  ·rename_i h9; rw [if_neg h9] at h; exact absurd rfl h
 ·rfl
theorem rdB_zV {rs : List Rule} {r : Rule} {p : Nat} {rd : Int → Nat → RR} (h : (rdB rs b r p rd).2.2 ≠ 0) : (rdB rs b r p rd).1 = zV := by
 have hby : ∀ p n, (bytesP b p n).2.2 ≠ 0 → (bytesP b p n).1 = zV := fun p n h => by
  unfold bytesP at *
  split
  ·rfl
  ·rename_i h0; rw [if_neg h0] at h; exact absurd rfl h
 unfold rdB at *
 split
 ·rename_i h1; rw [if_pos h1] at h
  cases hd : rdInt b r p with
  | none => rfl
  | some n => rw [hd] at h; exact absurd rfl h
 rename_i h1; rw [if_neg h1] at h
 split
 ·rfl
 rename_i h2; rw [if_neg h2] at h
 split
 ·rename_i h3; rw [if_pos h3] at h; exact hby _ _ h
 rename_i h3; rw [if_neg h3] at h
 split
 ·rename_i h4; rw [if_pos h4] at h
  cases hd : rdInt b (ruleAt rs (kid0 r)) p with
  | none => rfl
  | some n => rw [hd] at h; exact hby _ _ h
 rename_i h4; rw [if_neg h4] at h
 split
 ·rename_i h5; rw [if_pos h5] at h
  cases hd : termP b p (r.bytes.getD 0 0) with
  | none => rfl
  | some n => rw [hd] at h; exact absurd rfl h
 rename_i h5; rw [if_neg h5] at h
 cases hh : headC rs b r p with
 | inl c => rfl
 | inr x => rw [hh] at h; exact finC_zV h
theorem rdW_zV {i at_ : Nat} (h : (rdW d.rules b i at_).2.2 ≠ 0) : (rdW d.rules b i at_).1 = zV := by
 rw [rdW] at *; exact rdB_zV h
def startP (rs : List Rule) (r : Rule) (at_ : Nat) : Nat := if r.kind == 5 || r.kind == 7 then at_ + (ruleAt rs (kid0 r)).size.toNat else if r.kind == 8 then at_ + 1 else at_
theorem headC_item {rs : List Rule} {r : Rule} {at_ : Nat} (h : kindOk rs r = true) (hk : 5 ≤ r.kind ∧ r.kind ≤ 9) {num : Int} {ks : List Int} {st : Nat} (hh : headC rs b r at_ = .inr (num, ks, st)) :
  (∀ j (hj : j < ks.length), itemR r num j = ks[j]) ∧ st = startP rs r at_ ∧ (r.kind = 9 → num = 0) := by
 unfold headC at hh
 by_cases h5 : r.kind = 5
 ·rw [h5] at hh
  simp only [beq_self_eq_true, if_true] at hh
  cases hi : rdInt b (ruleAt rs (kid0 r)) at_ with
  | none => rw [hi] at hh; cases hh
  | some n =>
   rw [hi] at hh
   simp only at hh
   split at hh
   ·cases hh
   ·cases hh
    refine ⟨fun j hj => by unfold itemR; rw [h5]; simp, by unfold startP; rw [h5]; rfl, by omega⟩
 rw [show (r.kind == 5) = false by simpa using h5] at hh
 by_cases h6 : r.kind = 6
 ·rw [h6] at hh
  simp only [Bool.false_eq_true, if_false, beq_self_eq_true, if_true] at hh
  cases hh
  exact ⟨fun j hj => by unfold itemR; rw [h6]; simp [hj], by unfold startP; rw [h6]; rfl, by omega⟩
 rw [show (r.kind == 6) = false by simpa using h6] at hh
 by_cases h7 : r.kind = 7
 ·rw [h7] at hh
  simp only [Bool.false_eq_true, if_false, beq_self_eq_true, if_true] at hh
  cases hi : rdInt b (ruleAt rs (kid0 r)) at_ with
  | none => rw [hi] at hh; cases hh
  | some n =>
   rw [hi] at hh
   simp only at hh
   cases ht : tagIx r.tags n with
   | none => rw [ht] at hh; cases hh
   | some k =>
    rw [ht] at hh
    cases hh
    refine ⟨fun j hj => ?_, by unfold startP; rw [h7]; rfl, by omega⟩
    have : j = 0 := by simpa using hj
    subst this
    unfold itemR; rw [h7]; simp [ht]
 rw [show (r.kind == 7) = false by simpa using h7] at hh
 by_cases h8 : r.kind = 8
 ·rw [h8] at hh
  simp only [Bool.false_eq_true, if_false, beq_self_eq_true, if_true] at hh
  cases hi : b[at_]? with
  | none => rw [hi] at hh; cases hh
  | some c =>
   rw [hi] at hh
   simp only at hh
   split at hh
   ·cases hh
   ·cases hh
    exact ⟨fun j hj => by unfold itemR; rw [h8]; simp, by unfold startP; rw [h8]; rfl, by omega⟩
 rw [show (r.kind == 8) = false by simpa using h8] at hh
 simp only [Bool.false_eq_true, if_false] at hh
 cases hh
 have h9 : r.kind = 9 := by omega
 refine ⟨fun j hj => ?_, by unfold startP; rw [h9]; rfl, fun _ => rfl⟩
 have : j = 0 := by simpa using hj
 subst this
 unfold itemR; rw [h9]; simp
def okV (d : Desc) (b : List UInt8) (rule at_ : Int) : Bool := (valid d && isRule d rule) && ((decide (0 ≤ at_) && decide (at_ ≤ (b.length : Int))) && decide ((b.length : Int) ≤ 400))
def readV (d : Desc) (rule : Int) (b : List UInt8) (at_ : Int) : Val × Int × Int := if okV d b rule at_ = true then castR (rdW d.rules b rule.toNat at_.toNat) else (zV, 0, 8)
theorem okV_nat {rule at_ : Int} (h : okV d b rule at_ = true) : valid d = true ∧ b.length ≤ 400 ∧ ∃ i p : Nat, rule = i ∧ at_ = p ∧ i < d.rules.length ∧ p ≤ b.length := by
 unfold okV isRule at h
 simp only [Bool.and_eq_true, decide_eq_true_eq] at h
 exact ⟨h.1.1, by omega, rule.toNat, at_.toNat, by omega, by omega, by omega, by omega⟩
theorem spec_ReadValue (hd : SmD d) {n : Nat} (hn : 500 ≤ n) (rule at_ : Int) : M_spec_ReadValue n d rule b at_ = some (readV d rule b at_) := by
 unfold M_spec_ReadValue readV
 rw [spec_l7Rule d hd, spec_l1In]
 by_cases h : okV d b rule at_ = true
 ·rw [if_pos h]
  obtain ⟨hv, hb, i, p, rfl, rfl, hi, hp⟩ := okV_nat h
  have hlen := (valid_len hv).2
  have e1 : (valid d && isRule d (i : Int)) = true := by unfold isRule; rw [hv, decide_eq_true (by omega), decide_eq_true (by omega)]; rfl
  rw [e1, decide_eq_true (show (0 : Int) ≤ (p : Int) by omega), decide_eq_true (show (p : Int) ≤ (b.length : Int) by omega), decide_eq_false (show ¬ (400 : Int) < (b.length : Int) by omega)]
  simp only [bd_some, Bool.not_true, Bool.false_eq_true, if_false, Bool.and_self]
  rw [spec_read hv hd hb i hi n (by omega) p hp]
  rfl
 ·rw [if_neg h]
  unfold okV at h
  have e400 : decide ((400 : Int) < (b.length : Int)) = !decide ((b.length : Int) ≤ 400) := by
   by_cases hb : (b.length : Int) ≤ 400
   ·rw [decide_eq_true hb, decide_eq_false (by omega)]; rfl
   ·rw [decide_eq_false hb, decide_eq_true (by omega)]; rfl
  rw [e400]
  generalize (valid d && isRule d rule) = a at *
  generalize (decide (0 ≤ at_) && decide (at_ ≤ (b.length : Int))) = c at *
  generalize decide ((b.length : Int) ≤ 400) = e at *
  cases a <;> cases c <;> cases e <;> first | rfl | exact absurd rfl h
theorem impl_ReadValue (hd : SmD d) {n : Nat} (hn : 500 ≤ n) (rule at_ : Int) : M_impl_ReadValue n d rule b at_ = some (readV d rule b at_) := by
 unfold M_impl_ReadValue readV
 rw [impl_known n (by omega) d hd]
 by_cases h : okV d b rule at_ = true
 ·rw [if_pos h]
  obtain ⟨hv, hb, i, p, rfl, rfl, hi, hp⟩ := okV_nat h
  have hlen := (valid_len hv).2
  have e1 : (valid d && isRule d (i : Int)) = true := by unfold isRule; rw [hv, decide_eq_true (by omega), decide_eq_true (by omega)]; rfl
  rw [e1, decide_eq_false (show ¬ (p : Int) < 0 by omega), decide_eq_false (show ¬ (b.length : Int) < (p : Int) by omega), decide_eq_false (show ¬ (400 : Int) < (b.length : Int) by omega)]
  simp only [bd_some, Bool.not_true, Bool.false_eq_true, if_false]
  obtain ⟨nx, hrd⟩ := impl_read hv hd hb i hi n (by omega) p hp
  rw [hrd]
  show _ = some (castR (rdW d.rules b i p))
  have hz := rdW_zV (d := d) (b := b) (i := i) (at_ := p)
  generalize rdW d.rules b i p = x at *
  unfold castE castR
  by_cases h0 : x.2.2 = 0
  ·rw [if_pos h0, h0]; rfl
  ·rw [if_neg h0, hz h0]; rfl
 ·rw [if_neg h]
  unfold okV at h
  have e400 : decide ((400 : Int) < (b.length : Int)) = !decide ((b.length : Int) ≤ 400) := by
   by_cases hb : (b.length : Int) ≤ 400
   ·rw [decide_eq_true hb, decide_eq_false (by omega)]; rfl
   ·rw [decide_eq_false hb, decide_eq_true (by omega)]; rfl
  have e0 : decide (at_ < 0) = !decide (0 ≤ at_) := by
   by_cases hb : 0 ≤ at_
   ·rw [decide_eq_true hb, decide_eq_false (by omega)]; rfl
   ·rw [decide_eq_false hb, decide_eq_true (by omega)]; rfl
  have e1 : decide ((b.length : Int) < at_) = !decide (at_ ≤ (b.length : Int)) := by
   by_cases hb : at_ ≤ (b.length : Int)
   ·rw [decide_eq_true hb, decide_eq_false (by omega)]; rfl
   ·rw [decide_eq_false hb, decide_eq_true (by omega)]; rfl
  rw [e400, e0, e1]
  generalize (valid d && isRule d rule) = a at *
  generalize decide (0 ≤ at_) = c at *
  generalize decide (at_ ≤ (b.length : Int)) = c' at *
  generalize decide ((b.length : Int) ≤ 400) = e at *
  cases a <;> cases c <;> cases c' <;> cases e <;> first | rfl | exact absurd rfl h
theorem impl_CheckValue (hd : SmD d) {n : Nat} (hn : 500 ≤ n) (rule at_ : Int) : M_impl_CheckValue n d rule b at_ = some ((readV d rule b at_).2.1, (readV d rule b at_).2.2) := by
 unfold M_impl_CheckValue readV
 rw [impl_known n (by omega) d hd]
 by_cases h : okV d b rule at_ = true
 ·rw [if_pos h]
  obtain ⟨hv, hb, i, p, rfl, rfl, hi, hp⟩ := okV_nat h
  have hlen := (valid_len hv).2
  have e1 : (valid d && isRule d (i : Int)) = true := by unfold isRule; rw [hv, decide_eq_true (by omega), decide_eq_true (by omega)]; rfl
  rw [e1, decide_eq_false (show ¬ (p : Int) < 0 by omega), decide_eq_false (show ¬ (b.length : Int) < (p : Int) by omega), decide_eq_false (show ¬ (400 : Int) < (b.length : Int) by omega)]
  simp only [bd_some, Bool.not_true, Bool.false_eq_true, if_false]
  obtain ⟨ap', hrd⟩ := impl_check hv hd hb i hi n (by omega) p hp 0
  rw [show (⟨(⟨d.rules⟩ : Desc), b, 0⟩ : Checker) = ⟨d, b, 0⟩ from rfl, hrd]
  rfl
 ·rw [if_neg h]
  unfold okV at h
  have e400 : decide ((400 : Int) < (b.length : Int)) = !decide ((b.length : Int) ≤ 400) := by
   by_cases hb : (b.length : Int) ≤ 400
   ·rw [decide_eq_true hb, decide_eq_false (by omega)]; rfl
   ·rw [decide_eq_false hb, decide_eq_true (by omega)]; rfl
  have e0 : decide (at_ < 0) = !decide (0 ≤ at_) := by
   by_cases hb : 0 ≤ at_
   ·rw [decide_eq_true hb, decide_eq_false (by omega)]; rfl
   ·rw [decide_eq_false hb, decide_eq_true (by omega)]; rfl
  have e1 : decide ((b.length : Int) < at_) = !decide (at_ ≤ (b.length : Int)) := by
   by_cases hb : at_ ≤ (b.length : Int)
   ·rw [decide_eq_true hb, decide_eq_false (by omega)]; rfl
   ·rw [decide_eq_false hb, decide_eq_true (by omega)]; rfl
  rw [e400, e0, e1]
  generalize (valid d && isRule d rule) = a at *
  generalize decide (0 ≤ at_) = c at *
  generalize decide (at_ ≤ (b.length : Int)) = c' at *
  generalize decide ((b.length : Int) ≤ 400) = e at *
  cases a <;> cases c <;> cases c' <;> cases e <;> first | rfl | exact absurd rfl h
def rootP (d : Desc) : Int := (d.rules.length : Int) - 1
theorem impl_RootOf (hd : SmD d) : M_impl_RootOf d = some (rootP d) := by
 have := hd.rules; have := MXv
 unfold M_impl_RootOf rootP; rw [isub_of (by omega) (by omega)]
theorem spec_RootOf (hd : SmD d) : M_spec_RootOf d = some (rootP d) := by
 have := hd.rules; have := MXv
 unfold M_spec_RootOf rootP; rw [isub_of (by omega) (by omega)]
def readF (d : Desc) (b : List UInt8) : Val × Int × Int := if (readV d (rootP d) b 0).2.2 = 0 ∧ (readV d (rootP d) b 0).2.1 < (b.length : Int) then (zV, (readV d (rootP d) b 0).2.1, 7) else readV d (rootP d) b 0
theorem readF_tail (v : Val) (e c : Int) (len : Int) : bd (α := Bool) (if (c == 0) = true then some (decide (e < len)) else some false) (fun x442 => if x442 = true then some ((⟨0, ([] : List UInt8), ([] : List Val)⟩ : Val), e, 7) else some ((⟨v.number, v.bytes, v.items⟩ : Val), e, c)) = some (if c = 0 ∧ e < len then (zV, e, 7) else (v, e, c)) := by
 rw [val_eta]
 by_cases h0 : c = 0
 ·subst h0
  by_cases h1 : e < len
  ·rw [decide_eq_true h1, if_pos (show (0 : Int) = 0 ∧ e < len from ⟨rfl, h1⟩)]; rfl
  ·rw [decide_eq_false h1, if_neg (show ¬ ((0 : Int) = 0 ∧ e < len) from fun h => h1 h.2)]; rfl
 ·rw [show (c == 0) = false by simpa using h0, if_neg (show ¬ (c = 0 ∧ e < len) from fun h => h0 h.1)]; rfl
theorem impl_ReadFile (hd : SmD d) {n : Nat} (hn : 500 ≤ n) : M_impl_ReadFile n d b = some (readF d b) := by
 unfold M_impl_ReadFile readF
 rw [impl_RootOf hd, bd_some, impl_ReadValue hd hn]
 generalize readV d (rootP d) b 0 = x
 exact readF_tail x.1 x.2.1 x.2.2 _
theorem spec_ReadFile (hd : SmD d) {n : Nat} (hn : 500 ≤ n) : M_spec_ReadFile n d b = some (readF d b) := by
 unfold M_spec_ReadFile readF
 rw [spec_RootOf hd, bd_some, spec_ReadValue hd hn]
 generalize readV d (rootP d) b 0 = x
 exact readF_tail x.1 x.2.1 x.2.2 _
end
end Go.Vw
