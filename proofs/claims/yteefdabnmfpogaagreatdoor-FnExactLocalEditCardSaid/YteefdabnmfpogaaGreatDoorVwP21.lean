import Derived.Test.YteefdabnmfpogaaGreatDoorVwP20
namespace Go.Vw
open Go.RowKit Dat
theorem parseP_inv {s : Str} {x : Int} (h : parseP s = (x, true)) : 0 ≤ x ∧ x ≤ 1000000000000 ∧ Lib.itoa x = s.b := by
 unfold parseP at h
 split at h
 ·rename_i hc
  cases h
  exact ⟨(valP_bound _ hc.2.1).1, hc.2.2.1, hc.2.2.2⟩
 ·cases h
theorem stepP_five {r : Rule} (h : r.kind = 5) (t : Nat) : stepP r t = ⟨Lib.itoa t⟩ := by unfold stepP; rw [h]; rfl
section
variable {d : Desc} {b : List UInt8}
def Fits (o : Option (Nat × Nat)) (y : Bool × Int × Int) : Prop := match o with
 | some (k, q) => y = (true, (k : Int), (q : Int))
 | none => y.1 = false
theorem impl_pass (hv : valid d = true) (hd : SmD d) (hb : b.length ≤ 400) {n : Nat} (hn : 500 ≤ n) {i : Int} {p : Nat} (hp : p ≤ b.length) {k : Int} (h0 : 0 ≤ k) (hk : k < d.rules.length) :
  M_impl_locator_pass n ⟨d, b, i, p⟩ k = some ((rdK d.rules b k p).2.2 == 0, ((rdK d.rules b k p).2.1 : Int)) := by
 unfold M_impl_locator_pass
 have h := impl_CheckValue (b := b) hd hn k p
 have hr := readV_at (d := d) (b := b) hv hb (i := k.toNat) (p := p) (by omega) hp
 rw [show ((k.toNat : Nat) : Int) = k by omega] at hr
 rw [hr] at h
 simp only
 rw [h]
 rfl
theorem rdK_int (hv : valid d = true) {k : Int} (h0 : 0 ≤ k) (hk : k < d.rules.length) {p : Nat} (hp : p ≤ b.length) (h1 : isInt (ruleAt d.rules k)) :
  rdK d.rules b k p = (match rdInt b (ruleAt d.rules k) p with | none => (zV, p, 1) | some n => (⟨n, [], []⟩, p + (ruleAt d.rules k).size.toNat, 0)) := by
 unfold rdK
 rw [rdW_eq hv (by omega) hp]
 have : d.rules[k.toNat]'(by omega) = ruleAt d.rules k := by unfold ruleAt; rw [List.getD_eq_getElem?_getD, List.getElem?_eq_getElem (by omega)]; rfl
 rw [this]
 unfold rdB
 rw [h1.1]; rfl
theorem impl_locnum (hv : valid d = true) (hd : SmD d) (hb : b.length ≤ 400) {n : Nat} (hn : 500 ≤ n) {i : Int} {p : Nat} (hp : p ≤ b.length) {k : Int} (hl : 0 < lim d.rules k) :
  M_impl_locator_number n ⟨d, b, i, p⟩ k = some (match rdInt b (ruleAt d.rules k) p with | none => (0, false, (p : Int)) | some x => (x, true, ((p + (ruleAt d.rules k).size.toNat : Nat) : Int))) := by
 have hq := lim_int hl
 obtain ⟨h0, _, hk⟩ := idxS hq.1
 unfold M_impl_locator_number
 rw [impl_pass hv hd hb hn hp h0 hk, rdK_int hv h0 hk hp hq.2]
 simp only [bd2_some]
 cases hi : rdInt b (ruleAt d.rules k) p with
 | none => rfl
 | some x =>
  have hr := rdInt_range hq.2 hi
  simp only [beq_self_eq_true, Bool.not_true, Bool.false_eq_true, if_false]
  rw [slc_piece (by omega) hr.2.2, bd_some, hq.1, bd_some]
  have hs := hq.2.2
  rw [impl_ReadInteger _ _ (by rw [piece_len hr.2.2]; omega), bd_some]
  unfold rdInt at hi
  split at hi
  ·cases hi
  ·rw [Option.some.inj hi]
theorem item_loop (hv : valid d = true) (hd : SmD d) (hb : b.length ≤ 400) {n : Nat} (hn : 500 ≤ n) {i : Int} {r : Rule} {kid : Int} (hr : r.kind = 5) (hkid : idx r.kids 1 = some kid) (h0 : 0 ≤ kid) (hk : kid < d.rules.length) {s : Str} :
  ∀ (m c j p f : Nat), m < c → c ≤ 1000 → m < f → p ≤ b.length → s.b = Lib.itoa ((j + m : Nat) : Int) → ∃ y, bd (iter (σ := Int × Int) (ρ := Bool × Int × Int) (un2 fun x270 x272 => if (decide (0 < x270)) = true then bd (idx r.kids 1) fun x340 => bd2 (M_impl_locator_pass n (⟨d, b, i, x272⟩ : Locator) x340) fun r359 r362 => if (!r359) = true then some (.ret (false, i, r362)) else some (.next (isub x270 1, r362)) else bd (idx r.kids 1) fun x393 => some (.ret (true, x393, x272))) f ((m : Int), (p : Int))) (el (fun _ => none) (fun r275 => some r275)) = some y ∧ Fits (seek r s (rdK d.rules b) (List.replicate c kid) j p) y
 | 0, c, j, p, f, hc, _, hf, hp, hs => by
  obtain ⟨c, rfl⟩ : ∃ c', c = c' + 1 := ⟨c - 1, by omega⟩
  obtain ⟨f, rfl⟩ : ∃ f', f = f' + 1 := ⟨f - 1, by omega⟩
  unfold iter
  simp only [un2]
  rw [decide_eq_false (by omega), hkid]
  simp only [Bool.false_eq_true, if_false, bd_some, el_inr]
  refine ⟨_, rfl, ?_⟩
  rw [List.replicate_succ]
  unfold seek
  rw [if_pos (by rw [stepP_five hr, hs]; rfl)]
  show _ = _
  rw [show ((kid.toNat : Nat) : Int) = kid by omega]
 | m + 1, c, j, p, f, hc, hc2, hf, hp, hs => by
  obtain ⟨c, rfl⟩ : ∃ c', c = c' + 1 := ⟨c - 1, by omega⟩
  obtain ⟨f, rfl⟩ : ∃ f', f = f' + 1 := ⟨f - 1, by omega⟩
  unfold iter
  simp only [un2]
  rw [decide_eq_true (by omega), hkid]
  simp only [if_true, bd_some]
  rw [impl_pass hv hd hb hn hp h0 hk]
  simp only [bd2_some]
  rw [List.replicate_succ]
  unfold seek
  have hne : ¬ (stepP r j).b = s.b := fun h => by
   rw [stepP_five hr, hs] at h
   have := itoa_inj h
   omega
  rw [if_neg hne]
  by_cases hok : (rdK d.rules b kid p).2.2 = 0
  ·rw [if_pos hok, hok]
   simp only [beq_self_eq_true, Bool.not_true, Bool.false_eq_true, if_false]
   have ih := item_loop hv hd hb hn hr hkid h0 hk (s := s) (i := i) m c (j + 1) (rdK d.rules b kid p).2.1 f (by omega) (by omega) (by omega) (rdW_le hv kid.toNat (by omega) p hp).2 (by rw [hs]; congr 2; omega)
   rw [hkid] at ih
   simp only [bd_some] at ih
   rw [isub_of (by omega) (by omega), show ((m + 1 : Nat) : Int) - 1 = m by omega]
   exact ih
  ·rw [if_neg hok, show ((rdK d.rules b kid p).2.2 == 0) = false by simpa using hok]
   exact ⟨_, rfl, rfl⟩
theorem impl_item (hv : valid d = true) (hd : SmD d) (hb : b.length ≤ 400) {n : Nat} (hn : 500 ≤ n) {i : Nat} (hi : i < d.rules.length) {p : Nat} (hp : p ≤ b.length) {s : Str} (h5 : d.rules[i].kind = 5) :
  ∃ y, M_impl_locator_item n ⟨d, b, i, p⟩ d.rules[i] s = some y ∧ Fits (stepT d.rules b d.rules[i] p s) y := by
 have hr := valid_rule hv hi
 generalize d.rules[i] = r at *
 have hk := k_array hr.kind h5
 have hkid := hr.kids (r.kids.getD 1 0) (getD_mem (by omega))
 have hq := lim_int hk.1
 unfold M_impl_locator_item stepT headC
 rw [impl_ParseInt, kid0_idx (show 0 < r.kids.length by omega), if_pos (by omega), h5]
 simp only [beq_self_eq_true, if_true]
 rcases hps : parseP s with ⟨x, ok⟩
 simp only [bd2_some, bd_some]
 rw [impl_locnum hv hd hb hn hp hk.1]
 cases hi : rdInt b (ruleAt d.rules (kid0 r)) p with
 | none => cases ok <;> exact ⟨_, rfl, rfl⟩
 | some m =>
  have hrng := rdInt_range hq.2 hi
  simp only [bd3_some]
  by_cases h40 : 40 < m
  ·rw [if_pos h40, decide_eq_true h40]
   cases ok <;> exact ⟨_, rfl, rfl⟩
  rw [if_neg h40, decide_eq_false h40]
  simp only
  by_cases hin : ok = true ∧ x < m
  ·obtain ⟨rfl, hx⟩ := hin
   obtain ⟨hx0, _, hs⟩ := parseP_inv hps
   rw [decide_eq_false (show ¬ m ≤ x by omega)]
   simp only [Bool.not_true, Bool.false_eq_true, if_false, bd_some]
   have hid : idx r.kids 1 = some (r.kids.getD 1 0) := by rw [idx_one (by omega), getD_get (by omega)]
   have := item_loop (s := s) (b := b) (i := (i : Int)) hv hd hb hn h5 hid hkid.1 (by omega) x.toNat m.toNat 0 (p + (ruleAt d.rules (kid0 r)).size.toNat) n (by omega) (by omega) (by omega) hrng.2.2 (by rw [← hs]; congr 1; omega)
   rw [show ((x.toNat : Nat) : Int) = x by omega] at this
   exact this
  ·have hnone := seek_none (r := r) (s := s) (rd := rdK d.rules b) (List.replicate m.toNat (r.kids.getD 1 0)) 0 (p + (ruleAt d.rules (kid0 r)).size.toNat) (fun t _ ht he => by
    rw [stepP_five h5] at he
    rw [List.length_replicate] at ht
    have e : s = ⟨Lib.itoa t⟩ := by cases s; simp only at he; rw [he]
    have hpi := parse_itoa t (by omega)
    rw [← e, hps] at hpi
    cases hpi
    exact hin ⟨rfl, by omega⟩)
   rw [hnone]
   cases ok with
   | false => exact ⟨_, rfl, rfl⟩
   | true =>
    rw [decide_eq_true (show m ≤ x by
     apply Int.not_lt.1; intro h; exact hin ⟨rfl, h⟩)]
    exact ⟨_, rfl, rfl⟩
theorem impl_seqpart (hv : valid d = true) (hd : SmD d) (hb : b.length ≤ 400) {n : Nat} (hn : 500 ≤ n) {i : Nat} (hi : i < d.rules.length) {p : Nat} (hp : p ≤ b.length) {s : Str} (h6 : d.rules[i].kind = 6) :
  ∃ y, M_impl_locator_part n ⟨d, b, i, p⟩ d.rules[i] s = some y ∧ Fits (stepT d.rules b d.rules[i] p s) y := by
 have hr := valid_rule hv hi
 generalize d.rules[i] = r at *
 have hk := k_seq hr.kind h6
 have hst : ∀ t (ht : t < r.names.length), stepP r t = r.names[t] := fun t ht => by unfold stepP; rw [h6, decide_eq_true ht, getD_get ht]; rfl
 unfold M_impl_locator_part stepT headC
 rw [if_pos (by omega), h6]
 simp only [show ((6 : Int) == 5) = false from rfl, Bool.false_eq_true, if_false, beq_self_eq_true, if_true, impl_ContainsText, bd_some]
 by_cases hh : hasText r.names s = true
 ·rw [hh]
  simp only [Bool.not_true, Bool.false_eq_true, if_false]
  have := seek_loop (r := r) (s := s) (rd := rdK d.rules b) (body := fun k217 => (fun x211 => bd (idx r.names ((k217 : Nat) : Int)) fun x316 => if (x316.b == s.b) = true then bd (idx r.kids ((k217 : Nat) : Int)) fun x356 => some (.ret (true, x356, x211)) else bd (α := Bool × Int) (bd (idx r.kids ((k217 : Nat) : Int)) fun x439 => bd2 (M_impl_locator_pass n (⟨d, b, i, x211⟩ : Locator) x439) fun r459 r462 => some (!r459, r462)) (un2 fun x417 x418 => if x417 = true then some (.ret (false, (i : Int), x418)) else some (.next x418))))
   (g := fun x211 => some (false, (i : Int), x211)) (fun k q => (true, (k : Int), (q : Int))) (fun y => y.1 = false) r.kids b.length (fun k hk p hp => (rdW_le hv k.toNat (by have := hr.kids k hk; omega) p hp).2) (fun _ => ⟨_, rfl, rfl⟩)
   (fun j hj p hp => by
    have hkj := hr.kids r.kids[j] (List.getElem_mem hj)
    have hjn : j < r.names.length := by omega
    simp only [idx_get hjn, idx_get hj, bd_some]
    rw [hst j hjn, impl_pass hv hd hb hn hp hkj.1 (by omega)]
    simp only [bd2_some, bd_some, un2]
    refine ⟨fun h => ?_, fun h hc => ?_, fun h hc => ?_⟩
    ·rw [if_pos (by simpa using h), show ((r.kids[j].toNat : Nat) : Int) = r.kids[j] by omega]
    ·rw [if_neg (by simpa using h), hc]; rfl
    ·rw [if_neg (by simpa using h), show ((rdK d.rules b r.kids[j] p).2.2 == 0) = false by simpa using hc]; exact ⟨_, rfl, rfl⟩) r.kids.length 0 p (by omega) hp
  rw [List.drop_zero] at this
  obtain ⟨y, h1, h2⟩ := this
  refine ⟨y, ?_, h2⟩
  rw [← hk.1]
  exact h1
 ·rw [show hasText r.names s = false by simpa using hh]
  have hne : ∀ t (ht : t < r.names.length), r.names[t].b ≠ s.b := fun t ht he => hh (hasText_iff.2 ⟨r.names[t], List.getElem_mem ht, he⟩)
  rw [seek_none r.kids 0 p (fun t _ ht => by rw [hst t (by omega)]; exact hne t (by omega))]
  obtain ⟨m, hm⟩ : ∃ m, r.names.length = m + 1 := ⟨r.names.length - 1, by omega⟩
  have h0 : 0 < r.names.length := by omega
  rw [hm]
  unfold forN
  rw [idx_get h0, bd_some, if_neg (by simpa using hne 0 h0)]
  exact ⟨_, rfl, rfl⟩
theorem impl_indexFunc (l : List Int) (x : Int) : M_impl_indexFunc_g_impl_locator_alternative_1 l x = some (match tagIx l x with | some k => (k : Int) | none => -1) := by
 unfold M_impl_indexFunc_g_impl_locator_alternative_1 M_impl_locator_alternative_1 tagIx
 rw [forN_find (fun k => l.getD k 0 == x) (fun k => (k : Int))]
 ·cases (List.range l.length).find? (fun k => l.getD k 0 == x) <;> rfl
 ·intro k hk _
  rw [idx_get hk, bd_some, bd_some, getD_get hk]
  cases (l[k] == x) <;> rfl
theorem impl_alt (hv : valid d = true) (hd : SmD d) (hb : b.length ≤ 400) {n : Nat} (hn : 500 ≤ n) {i : Nat} (hi : i < d.rules.length) {p : Nat} (hp : p ≤ b.length) {s : Str} (h7 : d.rules[i].kind = 7) (hs : s.b = [42]) :
  ∃ y, M_impl_locator_alternative n ⟨d, b, i, p⟩ d.rules[i] = some y ∧ Fits (stepT d.rules b d.rules[i] p s) y := by
 have hr := valid_rule hv hi
 generalize d.rules[i] = r at *
 have hk := k_choice hr.kind h7
 have hq := lim_int hk.1
 unfold M_impl_locator_alternative stepT headC
 rw [kid0_idx (show 0 < r.kids.length by omega), if_pos (by omega), h7]
 simp only [show ((7 : Int) == 5) = false from rfl, show ((7 : Int) == 6) = false from rfl, Bool.false_eq_true, if_false, beq_self_eq_true, if_true, bd_some]
 rw [impl_locnum hv hd hb hn hp hk.1]
 cases hi : rdInt b (ruleAt d.rules (kid0 r)) p with
 | none =>
  simp only [bd3_some, impl_indexFunc, bd_some]
  exact ⟨_, rfl, rfl⟩
 | some m =>
  simp only [bd3_some, impl_indexFunc, bd_some]
  cases ht : tagIx r.tags m with
  | none => exact ⟨_, rfl, rfl⟩
  | some j =>
   have hj := tagIx_lt ht
   simp only [Bool.not_true, Bool.false_eq_true, if_false, bd_some]
   rw [decide_eq_false (show ¬ (j : Int) < 0 by omega)]
   have hMX := MXv
   rw [iadd_of (x := (j : Int)) (by omega) (by omega), show (j : Int) + 1 = ((j + 1 : Nat) : Int) by omega, idx_get (show j + 1 < r.kids.length by omega)]
   simp only [Bool.false_eq_true, if_false, bd_some]
   refine ⟨_, rfl, ?_⟩
   unfold seek
   have hst : stepP r 0 = ⟨[42]⟩ := by unfold stepP; rw [h7]; rfl
   have hkid := hr.kids (r.kids.getD (j + 1) 0) (getD_mem (by omega))
   rw [if_pos (by rw [hst, hs])]
   show _ = _
   rw [getD_get (show j + 1 < r.kids.length by omega)] at *
   rw [show ((r.kids[j + 1].toNat : Nat) : Int) = r.kids[j + 1] by omega]
theorem seek_one {r : Rule} {s : Str} {rd : Int → Nat → RR} {k : Int} {p : Nat} (h : (stepP r 0).b ≠ s.b) : seek r s rd [k] 0 p = none := seek_none _ _ _ fun t _ ht => by
 have : t = 0 := by simp at ht; omega
 subst this; exact h
theorem impl_follow (hv : valid d = true) (hd : SmD d) (hb : b.length ≤ 400) {n : Nat} (hn : 500 ≤ n) {i : Nat} (hi : i < d.rules.length) {p : Nat} (hp : p ≤ b.length) (s : Str) :
  ∃ y, M_impl_locator_follow n ⟨d, b, i, p⟩ s = some y ∧ Fits (stepT d.rules b d.rules[i] p s) y := by
 have hr := valid_rule hv hi
 have hMX := MXv
 unfold M_impl_locator_follow
 simp only
 rw [idx_get hi, bd_some]
 by_cases h5 : d.rules[i].kind = 5
 ·obtain ⟨y, h1, h2⟩ := impl_item hv hd hb hn hi hp h5 (s := s)
  rw [h5, h1]
  exact ⟨y, rfl, h2⟩
 rw [show (d.rules[i].kind == 5) = false by simpa using h5]
 simp only [Bool.false_eq_true, if_false]
 by_cases h6 : d.rules[i].kind = 6
 ·obtain ⟨y, h1, h2⟩ := impl_seqpart hv hd hb hn hi hp h6 (s := s)
  rw [h6, h1]
  exact ⟨y, rfl, h2⟩
 rw [show (d.rules[i].kind == 6) = false by simpa using h6]
 simp only [Bool.false_eq_true, if_false]
 by_cases h7 : d.rules[i].kind = 7
 ·by_cases hs : s.b = [42]
  ·obtain ⟨y, h1, h2⟩ := impl_alt hv hd hb hn hi hp h7 hs
   rw [h7, hs, h1]
   exact ⟨y, rfl, h2⟩
  ·rw [h7, show (s.b == [42]) = false by simpa using hs]
   refine ⟨_, rfl, ?_⟩
   have hst : stepP d.rules[i] 0 = ⟨[42]⟩ := by unfold stepP; rw [h7]; rfl
   have : stepT d.rules b d.rules[i] p s = none := by
    unfold stepT headC
    rw [if_pos (by omega), h7]
    simp only [show ((7 : Int) == 5) = false from rfl, show ((7 : Int) == 6) = false from rfl, Bool.false_eq_true, if_false, beq_self_eq_true, if_true]
    cases rdInt b (ruleAt d.rules (kid0 d.rules[i])) p with
    | none => rfl
    | some m =>
     simp only
     cases tagIx d.rules[i].tags m with
     | none => rfl
     | some j => exact seek_one (by rw [hst]; exact fun h => hs h.symm)
   rw [this]; rfl
 rw [show (d.rules[i].kind == 7) = false by simpa using h7]
 simp only [Bool.false_eq_true, if_false, bd_some]
 by_cases h8 : d.rules[i].kind = 8
 ·have hst : stepP d.rules[i] 0 = ⟨[63]⟩ := by unfold stepP; rw [h8]; rfl
  have hk1 := k_one hr.kind (.inl h8)
  rw [h8]
  simp only [beq_self_eq_true, if_true, bd_some]
  by_cases hs : s.b = [63]
  ·rw [hs]
   simp only [beq_self_eq_true, if_true]
   unfold stepT headC
   rw [if_pos (show 5 ≤ d.rules[i].kind ∧ d.rules[i].kind ≤ 9 by omega), h8]
   simp only [show ((8 : Int) == 5) = false from rfl, show ((8 : Int) == 6) = false from rfl, show ((8 : Int) == 7) = false from rfl, Bool.false_eq_true, if_false, beq_self_eq_true, if_true]
   cases hc : b[p]? with
   | none =>
    have : b.length ≤ p := List.getElem?_eq_none_iff.1 hc
    rw [decide_eq_true (show (b.length : Int) ≤ (p : Int) by omega)]
    exact ⟨_, rfl, rfl⟩
   | some c =>
    have hlt : p < b.length := (List.getElem?_eq_some_iff.1 hc).1
    have hbp : b[p] = c := (List.getElem?_eq_some_iff.1 hc).2
    have hbc : byteI c = (c.toNat : Int) := rfl
    rw [decide_eq_false (show ¬ (b.length : Int) ≤ (p : Int) by omega), idx_get hlt, hbp]
    simp only [Bool.false_eq_true, if_false, bd_some]
    rw [show (byteI c != byteI (1 : UInt8)) = !decide (c = 1) by unfold bne; rw [beqB]]
    by_cases h1 : c = 1
    ·subst h1
     rw [iadd_of (x := (p : Int)) (by omega) (by omega), idx_zero (by omega)]
     refine ⟨_, rfl, ?_⟩
     have hkid := hr.kids (d.rules[i].kids.getD 0 0) (getD_mem (by omega))
     rw [if_neg (by decide), show UInt8.toNat 1 = 1 from rfl]
     simp only [List.replicate_succ, List.replicate_zero]
     unfold seek
     rw [if_pos (by rw [hst, hs])]
     show _ = _
     rw [getD_get (show 0 < d.rules[i].kids.length by omega)] at *
     rw [show ((d.rules[i].kids[0].toNat : Nat) : Int) = d.rules[i].kids[0] by omega]
     rfl
    ·rw [decide_eq_false h1]
     refine ⟨_, rfl, ?_⟩
     by_cases hc1 : 1 < byteI c
     ·rw [if_pos hc1]; rfl
     ·rw [if_neg hc1]
      have h0 : c.toNat = 0 := by
       have : c.toNat ≠ 1 := fun h => h1 (UInt8.toNat_inj.1 (by rw [h]; rfl))
       omega
      rw [h0]; rfl
  ·rw [show (s.b == [63]) = false by simpa using hs]
   refine ⟨_, rfl, ?_⟩
   have : stepT d.rules b d.rules[i] p s = none := by
    unfold stepT headC
    rw [if_pos (show 5 ≤ d.rules[i].kind ∧ d.rules[i].kind ≤ 9 by omega), h8]
    simp only [show ((8 : Int) == 5) = false from rfl, show ((8 : Int) == 6) = false from rfl, show ((8 : Int) == 7) = false from rfl, Bool.false_eq_true, if_false, beq_self_eq_true, if_true]
    cases b[p]? with
    | none => rfl
    | some c =>
     simp only
     by_cases hc1 : 1 < byteI c
     ·rw [if_pos hc1]
     ·rw [if_neg hc1]
      have hbc : byteI c = (c.toNat : Int) := rfl
      refine seek_none _ _ _ fun t _ ht => ?_
      have : t = 0 := by simp at ht; omega
      subst this
      rw [hst]; exact fun h => hs h.symm
   rw [this]; rfl
 rw [show (d.rules[i].kind == 8) = false by simpa using h8]
 simp only [Bool.false_eq_true, if_false, bd_some]
 by_cases h9 : d.rules[i].kind = 9
 ·have hst : stepP d.rules[i] 0 = ⟨[43]⟩ := by unfold stepP; rw [h9]; rfl
  have hk1 := k_one hr.kind (.inr h9)
  unfold stepT headC
  rw [if_pos (show 5 ≤ d.rules[i].kind ∧ d.rules[i].kind ≤ 9 by omega), h9]
  simp only [show ((9 : Int) == 5) = false from rfl, show ((9 : Int) == 6) = false from rfl, show ((9 : Int) == 7) = false from rfl, show ((9 : Int) == 8) = false from rfl, Bool.false_eq_true, if_false, beq_self_eq_true, if_true, bd_some]
  by_cases hs : s.b = [43]
  ·rw [hs, idx_zero (by omega)]
   refine ⟨_, rfl, ?_⟩
   have hkid := hr.kids (d.rules[i].kids.getD 0 0) (getD_mem (by omega))
   unfold seek
   rw [if_pos (show (stepP d.rules[i] 0).b = s.b by rw [hst, hs])]
   show _ = _
   rw [getD_get (show 0 < d.rules[i].kids.length by omega)] at *
   rw [show ((d.rules[i].kids[0].toNat : Nat) : Int) = d.rules[i].kids[0] by omega]
  ·rw [show (s.b == [43]) = false by simpa using hs, seek_one (by rw [hst]; exact fun h => hs h.symm)]
   exact ⟨_, rfl, rfl⟩
 ·rw [show (d.rules[i].kind == 9) = false by simpa using h9]
  unfold stepT
  rw [if_neg (show ¬ (5 ≤ d.rules[i].kind ∧ d.rules[i].kind ≤ 9) by omega)]
  exact ⟨_, rfl, rfl⟩
end
end Go.Vw
