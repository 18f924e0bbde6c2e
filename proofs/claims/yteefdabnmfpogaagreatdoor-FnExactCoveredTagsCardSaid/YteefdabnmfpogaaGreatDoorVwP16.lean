import Derived.Test.YteefdabnmfpogaaGreatDoorVwP15
namespace Go.Vw
open Go.RowKit Dat
theorem name_char {s : Str} (h : nameOk s = true) : ∀ c ∈ s.b, c ≠ 47 ∧ c ≠ 58 := by
 intro c hc
 unfold nameOk at h
 rw [Bool.and_eq_true, Bool.not_eq_true', List.any_eq_false] at h
 obtain ⟨k, hk, rfl⟩ := List.getElem_of_mem hc
 have h1 := h.1 k (List.mem_range.2 hk)
 unfold badC at h1
 rw [List.getElem?_eq_getElem hk] at h1
 simp only at h1
 constructor
 ·intro h2; rw [h2] at h1; simp [show lowC 47 = false by decide, show digC 47 = false by decide] at h1
 ·intro h2; rw [h2] at h1; simp [show lowC 58 = false by decide, show digC 58 = false by decide] at h1
theorem hasText_iff {l : List Str} {s : Str} : hasText l s = true ↔ ∃ x ∈ l, x.b = s.b := by
 unfold hasText; simp
theorem names_inj {rs : List Rule} {r : Rule} (h : kindOk rs r = true) (hk : r.kind = 6) {i j : Nat} (hi : i < r.names.length) (hj : j < r.names.length) (he : r.names[i].b = r.names[j].b) : i = j := by
 unfold kindOk at h
 rw [hk] at h
 simp only [show ((6 : Int) == 1) = false from rfl, show ((6 : Int) == 2) = false from rfl, show ((6 : Int) == 3) = false from rfl, show ((6 : Int) == 4) = false from rfl, show ((6 : Int) == 5) = false from rfl, Bool.false_eq_true, if_false, beq_self_eq_true, if_true, Bool.and_eq_true, Bool.not_eq_true', List.any_eq_false] at h
 have key : ∀ i j (hi : i < r.names.length) (hj : j < r.names.length), i < j → r.names[i].b ≠ r.names[j].b := fun i j hi hj hij he => by
  have h1 := h.2.1 j (List.mem_range.2 hj)
  unfold badN at h1
  rw [List.getElem?_eq_getElem hj] at h1
  simp only [Bool.or_eq_true, not_or] at h1
  exact h1.2 (hasText_iff.2 ⟨r.names[i], by rw [List.mem_take_iff_getElem]; exact ⟨i, by omega, rfl⟩, he⟩)
 rcases Nat.lt_trichotomy i j with h1 | h1 | h1
 ·exact absurd he (key i j hi hj h1)
 ·exact h1
 ·exact absurd he.symm (key j i hj hi h1)
theorem rule_names {d : Desc} (hv : valid d = true) {i j : Nat} (hi : i < d.rules.length) (hj : j < d.rules.length) (he : d.rules[i].name.b = d.rules[j].name.b) : i = j := by
 have key : ∀ i j (hi : i < d.rules.length) (hj : j < d.rules.length), i < j → d.rules[i].name.b ≠ d.rules[j].name.b := fun i j hi hj hij he => by
  have h := hv
  unfold valid at h
  rw [Bool.and_eq_true, Bool.not_eq_true', List.any_eq_false] at h
  have h1 := h.2 j (List.mem_range.2 hj)
  rw [Bool.not_eq_true', Bool.not_eq_false] at h1
  unfold ruleOk at h1
  rw [List.getElem?_eq_getElem hj] at h1
  simp only [Bool.and_eq_true, Bool.not_eq_true', List.any_eq_false] at h1
  exact h1.2.1 d.rules[i] (by rw [List.mem_take_iff_getElem]; exact ⟨i, by omega, rfl⟩) (by simpa using he)
 rcases Nat.lt_trichotomy i j with h1 | h1 | h1
 ·exact absurd he (key i j hi hj h1)
 ·exact h1
 ·exact absurd he.symm (key j i hj hi h1)
structure Good (s : Str) : Prop where
 step : isStepP s = true
 char : ∀ c ∈ s.b, c ≠ 47
 len : s.b.length ≤ 21
theorem good_name {s : Str} (h : nameOk s = true) : Good s := ⟨by unfold isStepP; rw [h]; rfl, fun c hc => (name_char h c hc).1, by have := nameOk_len h; omega⟩
theorem good_itoa {i : Nat} (h : i ≤ 1000000000) : Good ⟨Lib.itoa i⟩ := ⟨by unfold isStepP; rw [parse_itoa i (by omega)]; simp, fun c hc => by
  have := dec_dig i c (by simpa only [itoa_nat] using hc)
  intro he; rw [he] at this
  have : byteI (47 : UInt8) = 47 := rfl
  omega, itoa_len i h⟩
structure Ent (d : Desc) (b : List UInt8) (r : Rule) (at_ : Nat) (ks : List Int) (num : Int) : Prop where
 head : headC d.rules b r at_ = .inr (num, ks, startP d.rules r at_)
 lo : 5 ≤ r.kind
 hi : r.kind ≤ 9
theorem ent_step {d : Desc} {b : List UInt8} {r : Rule} {at_ : Nat} {ks : List Int} {num : Int} (hk : kindOk d.rules r = true) (h : Ent d b r at_ ks num) (h40 : ks.length ≤ 40) : (∀ i j, i < ks.length → j < ks.length → (stepP r i).b = (stepP r j).b → i = j) ∧ ∀ i, i < ks.length → Good (stepP r i) := by
 have hh := h.head
 have h1 := h.lo
 have h2 := h.hi
 generalize startP d.rules r at_ = st at hh
 have one : ks.length ≤ 1 → (∀ i j, i < ks.length → j < ks.length → (stepP r i).b = (stepP r j).b → i = j) := fun h i j hi hj _ => by omega
 by_cases h5 : r.kind = 5
 ·have e : ∀ i, stepP r i = ⟨Lib.itoa i⟩ := fun i => by unfold stepP; rw [h5]; rfl
  exact ⟨fun i j _ _ he => by rw [e, e] at he; exact itoa_inj he, fun i hi => by rw [e]; exact good_itoa (by omega)⟩
 by_cases h6 : r.kind = 6
 ·unfold headC at hh
  rw [h6] at hh
  have hks : ks = r.kids := by cases hh; rfl
  have hs := k_seq hk h6
  have e : ∀ i (hi : i < r.names.length), stepP r i = r.names[i] := fun i hi => by unfold stepP; rw [h6, decide_eq_true hi, getD_get hi]; rfl
  subst hks
  refine ⟨fun i j hi hj he => ?_, fun i hi => ?_⟩
  ·rw [e i (by omega), e j (by omega)] at he; exact names_inj hk h6 (by omega) (by omega) he
  ·rw [e i (by omega)]; exact good_name (hs.2.2.2 _ (List.getElem_mem (by omega)))
 have hlen : ks.length ≤ 1 := by
  unfold headC at hh
  rw [show (r.kind == 5) = false by simpa using h5, show (r.kind == 6) = false by simpa using h6] at hh
  simp only [Bool.false_eq_true, if_false] at hh
  split at hh
  ·split at hh
   ·cases hh
   ·split at hh
    ·cases hh
    ·cases hh; simp
  split at hh
  ·split at hh
   ·cases hh
   ·split at hh
    ·cases hh
    ·rename_i c _ hc
     cases hh
     have : byteI c = (c.toNat : Int) := rfl
     simp; omega
  ·cases hh; simp
 refine ⟨one hlen, fun i hi => ?_⟩
 have h0 : i = 0 := by omega
 subst h0
 unfold stepP
 rw [show (r.kind == 5) = false by simpa using h5, show (r.kind == 6) = false by simpa using h6]
 have : r.kind = 7 ∨ r.kind = 8 ∨ r.kind = 9 := by omega
 rcases this with h | h | h <;> rw [h]
 ·exact (show Good ⟨[42]⟩ from ⟨by decide, by decide, by decide⟩)
 ·exact (show Good ⟨[63]⟩ from ⟨by decide, by decide, by decide⟩)
 ·exact (show Good ⟨[43]⟩ from ⟨by decide, by decide, by decide⟩)
theorem fin_head {b : List UInt8} {r : Rule} {num : Int} {at_ : Nat} {x : List Val × Nat × Int} (h0 : (finC b r num at_ x).2.2 = 0) (h9 : r.kind = 9 → num = 0) : (finC b r num at_ x).1.items = x.1 ∧ (finC b r num at_ x).1.number = num ∧ x.2.2 = 0 := by
 unfold finC at *
 by_cases hx : x.2.2 = 0
 ·rw [if_pos hx] at *
  by_cases hk : r.kind = 9
  ·rw [show (r.kind == 9) = true by simpa using hk] at *
   simp only [if_true] at *
   cases hb : b[x.2.1]? with
   | none => rw [hb] at h0; cases h0
   | some c =>
    rw [hb] at h0
    simp only at h0 ⊢
    by_cases hs : byteI c = sumB (piece b at_ x.2.1)
    ·rw [if_pos hs]; exact ⟨rfl, (h9 hk).symm, hx⟩
    ·rw [if_neg hs] at h0; cases h0
  ·rw [show (r.kind == 9) = false by simpa using hk]; exact ⟨rfl, rfl, hx⟩
 ·rw [if_neg hx] at h0; exact absurd h0 hx
section
variable {d : Desc} {b : List UInt8}
theorem rdW_ent (hv : valid d = true) {i : Nat} (hi : i < d.rules.length) {at_ : Nat} (ha : at_ ≤ b.length) (hok : (rdW d.rules b i at_).2.2 = 0) {ks : List Int} {e : Nat} (h : RdOk d b d.rules[i] at_ (rdW d.rules b i at_) ks e) (hne : ks ≠ []) : Ent d b d.rules[i] at_ ks (rdW d.rules b i at_).1.number := by
 have hr := valid_rule hv hi
 have hal := k_all hr.kind
 have hlen := chain_len h.ch
 have hni : (rdW d.rules b i at_).1.items ≠ [] := fun hn => by rw [hn] at hlen; exact hne (List.length_eq_zero_iff.1 hlen.symm)
 have hitem0 := h.item
 clear h
 rw [rdW_eq hv hi ha] at *
 generalize d.rules[i] = r at *
 unfold rdB at *
 have hby : ∀ p n, (bytesP b p n).1.items = [] := fun p n => by unfold bytesP; split <;> rfl
 by_cases h1 : r.kind = 1
 ·exfalso; apply hni; rw [h1]; simp only [beq_self_eq_true, if_true]; split <;> rfl
 rw [show (r.kind == 1) = false by simpa using h1] at *
 by_cases h2 : r.kind = 2
 ·exfalso; apply hni; rw [h2]; rfl
 rw [show (r.kind == 2) = false by simpa using h2] at *
 by_cases h3 : r.kind = 3
 ·exfalso; apply hni; rw [h3]; exact hby _ _
 rw [show (r.kind == 3) = false by simpa using h3] at *
 by_cases h4 : r.kind = 4
 ·exfalso; apply hni; rw [h4]; simp only [Bool.false_eq_true, if_false, beq_self_eq_true, if_true]; split
  ·rfl
  ·exact hby _ _
 rw [show (r.kind == 4) = false by simpa using h4] at *
 by_cases h10 : r.kind = 10
 ·exfalso; apply hni; rw [h10]; simp only [Bool.false_eq_true, if_false, beq_self_eq_true, if_true]; split <;> rfl
 rw [show (r.kind == 10) = false by simpa using h10] at *
 simp only [Bool.false_eq_true, if_false] at *
 cases hh : headC d.rules b r at_ with
 | inl c => rw [hh] at hni; exact absurd rfl hni
 | inr y =>
  obtain ⟨num, ks', st⟩ := y
  rw [hh] at hok hni hlen hitem0
  simp only at hok hni hlen hitem0
  obtain ⟨hitem, hst, hn9⟩ := headC_item hr.kind (by omega) hh
  have hk := headC_kids hr.kind (by omega) ha hh
  obtain ⟨f1, f2, f3⟩ := fin_head hok hn9
  have hlek : ∀ k ∈ ks', ∀ p, p ≤ b.length → (rdW d.rules b k.toNat p).2.1 ≤ b.length := fun k hk' p hp => by
   have := hr.kids k (hk.1 k hk')
   exact (rdW_le hv k.toNat (by omega) p hp).2
  have hch := itemsP_chain (rd := fun k p => rdW d.rules b k.toNat p) (L := b.length) ks' st hk.2.2.1 hlek f3
  have hl' := chain_len hch
  rw [f1] at hlen
  rw [f2] at hitem0
  have hks : ks' = ks := by
   apply List.ext_getElem
   ·omega
   ·intro j h1 h2
    rw [← hitem j h1, ← hitem0 j h2]
  simp only
  rw [f2, ← hks]
  exact ⟨by rw [hh, hst], by omega, by omega⟩
theorem enter_ok (hb : b.length ≤ 400) {r : Rule} (hk : kindOk d.rules r = true) {at_ : Nat} (ha : at_ ≤ b.length) {ks : List Int} {num : Int} (h : Ent d b r at_ ks num) (hne : ks ≠ []) (hpos : ∀ k ∈ ks, 0 ≤ k) : M_spec_l20Enter d r b at_ = some (((startP d.rules r at_ : Nat) : Int), (ks.length : Int), num) := by
 have hMX := MXv
 have hh := h.head
 obtain ⟨hitem, hst, hn9⟩ := headC_item hk ⟨h.lo, h.hi⟩ hh
 have h1 := h.lo
 have h2 := h.hi
 clear hst
 unfold M_spec_l20Enter
 by_cases h6 : r.kind = 6
 ·rw [h6]
  simp only [beq_self_eq_true, if_true]
  unfold headC at hh
  rw [h6] at hh
  simp only [show ((6 : Int) == 5) = false from rfl, Bool.false_eq_true, if_false, beq_self_eq_true, if_true] at hh
  rw [Sum.inr.injEq, Prod.mk.injEq, Prod.mk.injEq] at hh
  rw [← hh.1, ← hh.2.1, ← hh.2.2]
 rw [show (r.kind == 6) = false by simpa using h6]
 simp only [Bool.false_eq_true, if_false]
 by_cases h9 : r.kind = 9
 ·rw [h9]
  simp only [beq_self_eq_true, if_true]
  unfold headC at hh
  rw [h9] at hh
  simp only [show ((9 : Int) == 5) = false from rfl, show ((9 : Int) == 6) = false from rfl, show ((9 : Int) == 7) = false from rfl, show ((9 : Int) == 8) = false from rfl, Bool.false_eq_true, if_false] at hh
  rw [Sum.inr.injEq, Prod.mk.injEq, Prod.mk.injEq] at hh
  rw [← hh.1, ← hh.2.1, ← hh.2.2]; rfl
 rw [show (r.kind == 9) = false by simpa using h9]
 simp only [Bool.false_eq_true, if_false]
 by_cases h8 : r.kind = 8
 ·rw [h8]
  simp only [beq_self_eq_true, if_true]
  unfold headC at hh
  rw [h8] at hh
  simp only [show ((8 : Int) == 5) = false from rfl, show ((8 : Int) == 6) = false from rfl, show ((8 : Int) == 7) = false from rfl, Bool.false_eq_true, if_false, beq_self_eq_true, if_true] at hh
  cases hc : b[at_]? with
  | none => rw [hc] at hh; cases hh
  | some c =>
   rw [hc] at hh
   simp only at hh
   split at hh
   ·cases hh
   ·rename_i hc1
    rw [Sum.inr.injEq, Prod.mk.injEq, Prod.mk.injEq] at hh
    have hlt : at_ < b.length := (List.getElem?_eq_some_iff.1 hc).1
    have hbc : byteI c = (c.toNat : Int) := rfl
    have hc0 : c.toNat ≠ 0 := fun h0 => by
     apply hne; rw [← hh.2.1, h0]; rfl
    have hc1' : c.toNat = 1 := by omega
    rw [decide_eq_true (show (at_ : Int) < (b.length : Int) by omega), idx_get hlt]
    have : b[at_] = c := (List.getElem?_eq_some_iff.1 hc).2
    rw [this]
    simp only [if_true, bd_some]
    rw [show (byteI c == byteI (1 : UInt8)) = true by rw [hbc, hc1']; rfl]
    simp only [if_true, bd_some, el_inr]
    rw [← hh.1, ← hh.2.1, ← hh.2.2, iadd_of (by omega) (by omega), hc1']; rfl
 rw [show (r.kind == 8) = false by simpa using h8]
 simp only [Bool.false_eq_true, if_false]
 have h57 : r.kind = 5 ∨ r.kind = 7 := by omega
 have hlim : 0 < lim d.rules (kid0 r) ∧ 0 < r.kids.length := by
  rcases h57 with h | h
  ·have := k_array hk h; exact ⟨this.1, by omega⟩
  ·have := k_choice hk h; exact ⟨this.1, by omega⟩
 have hq := lim_int hlim.1
 have hint := spec_l11Integer (b := b) hq.1 hq.2 (by omega) ha
 have e57 : bd (α := Bool) (if (r.kind == 5) = true then some (r.kind == 5) else some (r.kind == 7)) some = some true := by
  rcases h57 with h | h <;> rw [h] <;> rfl
 have e57' : (if (r.kind == 5) = true then some (r.kind == 5) else some (r.kind == 7)) = some true := by
  rcases h57 with h | h <;> rw [h] <;> rfl
 rw [e57']
 simp only [bd_some, if_true]
 rw [kid0_idx hlim.2, bd_some, hint]
 cases hi : rdInt b (ruleAt d.rules (kid0 r)) at_ with
 | none =>
  exfalso
  unfold headC at hh
  rcases h57 with h | h <;> rw [h, hi] at hh <;> cases hh
 | some n =>
  simp only [bd3_some, Bool.not_true, Bool.false_eq_true, if_false]
  have hrng := rdInt_range hq.2 hi
  rcases h57 with h5 | h7
  ·unfold headC at hh
   rw [h5, hi] at hh
   simp only [beq_self_eq_true, if_true] at hh
   split at hh
   ·cases hh
   ·rename_i hn
    rw [Sum.inr.injEq, Prod.mk.injEq, Prod.mk.injEq] at hh
    rw [h5, decide_eq_true (show n ≤ 40 by omega)]
    simp only [beq_self_eq_true, if_true, bd_some, el_inr]
    rw [← hh.1, ← hh.2.1, ← hh.2.2, List.length_replicate]
    simp; omega
  ·unfold headC at hh
   rw [h7, hi] at hh
   simp only [show ((7 : Int) == 5) = false from rfl, show ((7 : Int) == 6) = false from rfl, Bool.false_eq_true, if_false, beq_self_eq_true, if_true] at hh
   cases ht : tagIx r.tags n with
   | none => rw [ht] at hh; cases hh
   | some j =>
    rw [ht] at hh
    simp only at hh
    rw [Sum.inr.injEq, Prod.mk.injEq, Prod.mk.injEq] at hh
    have hl1 : ks.length = 1 := by rw [← hh.2.1]; rfl
    have hi0 := hitem 0 (by omega)
    have hp0 := hpos ks[0] (List.getElem_mem (by omega))
    rw [hh.1]
    have hl9 := spec_l9Item (k_kids hk) num 0
    rw [hi0] at hl9
    rw [h7]
    simp only [show ((7 : Int) == 5) = false from rfl, Bool.false_eq_true, if_false, bd_some, beq_self_eq_true, if_true]
    have hl9' : M_spec_l9Item r num 0 = some ks[0] := hl9
    rw [hl9', bd_some, decide_eq_true hp0]
    simp only [bd_some, if_true, el_inr]
    rw [← hh.2.2, hl1]; rfl
def posN (en : Int → Nat → Nat) (ks : List Int) (p : Nat) : Nat → Nat
 | 0 => p
 | m + 1 => en (ks.getD m 0) (posN en ks p m)
theorem posN_succ (en : Int → Nat → Nat) (ks : List Int) (p m : Nat) (hm : m < ks.length) : posN en ks p (m + 1) = en ks[m] (posN en ks p m) := by
 rw [posN, getD_get hm]
theorem posN_cons (en : Int → Nat → Nat) (k : Int) (ks : List Int) (p : Nat) : ∀ m, posN en (k :: ks) p (m + 1) = posN en ks (en k p) m
 | 0 => rfl
 | m + 1 => by
  rw [posN, posN_cons en k ks p m]; rfl
theorem chain_pos {rd : Int → Nat → RR} {L : Nat} : ∀ {ks : List Int} {p : Nat} {vs : List Val} {e : Nat}, chain rd L ks p vs e → ∀ m (hm : m < ks.length), posN (fun k p => (rd k p).2.1) ks p m ≤ L ∧ (rd ks[m] (posN (fun k p => (rd k p).2.1) ks p m)).2.2 = 0
 | k :: ks, p, vs, e, h, 0, _ => by
  obtain ⟨h1, h2, _⟩ := h
  exact ⟨h1, h2⟩
 | k :: ks, p, vs, e, h, m + 1, hm => by
  obtain ⟨_, _, ws, _, h3⟩ := h
  have := chain_pos h3 m (by simpa using hm)
  rw [posN_cons]
  exact this
def enP (d : Desc) (b : List UInt8) (k : Int) (p : Nat) : Nat := (rdW d.rules b k.toNat p).2.1
def StepTo (d : Desc) (b : List UInt8) (i p : Nat) (s : Str) (k q : Nat) : Prop := ∀ n, 1000 ≤ n → M_spec_l20Step n d i b p s = some ((k : Int), (q : Int), true)
theorem step_to (hv : valid d = true) (hd : SmD d) (hb : b.length ≤ 400) {i : Nat} (hi : i < d.rules.length) {at_ : Nat} (ha : at_ ≤ b.length) (hok : (rdW d.rules b i at_).2.2 = 0) {ks : List Int} {e : Nat} (h : RdOk d b d.rules[i] at_ (rdW d.rules b i at_) ks e) {m : Nat} (hm : m < ks.length) :
  StepTo d b i at_ (stepP d.rules[i] m) ks[m].toNat (posN (enP d b) ks (startP d.rules d.rules[i] at_) m) ∧ Good (stepP d.rules[i] m) := by
 have hne : ks ≠ [] := fun hn => by rw [hn] at hm; simp at hm
 have hE := rdW_ent hv hi ha hok h hne
 have hr := valid_rule hv hi
 have hkk : ∀ k ∈ ks, 0 ≤ k ∧ k < (i : Int) := fun k hk => hr.kids k (h.kids k hk)
 have hS := ent_step hr.kind hE h.small
 refine ⟨fun n hn => ?_, hS.2 m hm⟩
 have hlen := (valid_len hv).2
 unfold M_spec_l20Step
 rw [idx_get hi, bd_some, enter_ok hb hr.kind ha hE hne (fun k hk => (hkk k hk).1)]
 simp only [bd3_some, Int.toNat_natCast]
 have hP := chain_pos h.ch
 have hbody : ∀ j (hj : j < ks.length), M_spec_l9Item d.rules[i] (rdW d.rules b i at_).1.number ((j : Nat) : Int) = some ks[j] := fun j hj => by rw [spec_l9Item (k_kids hr.kind), h.item j hj]
 have h40 := h.small
 refine (congrArg (fun z => bd z _) (forN_ret (st := fun j => ((posN (enP d b) ks (startP d.rules d.rules[i] at_) j : Nat) : Int)) (r := (ks[m], ((posN (enP d b) ks (startP d.rules d.rules[i] at_) m : Nat) : Int), true)) hm (fun j hj => ?_) ?_)).trans ?_
 rotate_left 2
 ·have := hkk ks[m] (List.getElem_mem hm)
  rw [bd_some, el_inr, show ((ks[m].toNat : Nat) : Int) = ks[m] by omega]
 ·have hjk : j < ks.length := by omega
  have hp := hP j hjk
  have hk := hkk ks[j] (List.getElem_mem hjk)
  rw [hbody j hjk, bd_some, spec_l18Step (by omega) _ j (by omega), bd_some]
  rw [if_neg (show ¬ ((stepP d.rules[i] j).b == (stepP d.rules[i] m).b) = true by
   intro he
   have := hS.1 j m hjk hm (by simpa using he)
   omega)]
  have hrd := spec_read hv hd hb ks[j].toNat (by omega) n (by omega) (posN (enP d b) ks (startP d.rules d.rules[i] at_) j) hp.1
  rw [show ((ks[j].toNat : Nat) : Int) = ks[j] by omega] at hrd
  rw [hrd]
  unfold castR
  simp only [bd3_some]
  rw [show (rdW d.rules b ks[j].toNat (posN (enP d b) ks (startP d.rules d.rules[i] at_) j)).2.2 = 0 from hp.2]
  rw [posN_succ _ _ _ _ hjk]
  rfl
 ·rw [hbody m hm, bd_some, spec_l18Step (by omega) _ m (by omega), bd_some, if_pos (by simp)]
end
end Go.Vw
