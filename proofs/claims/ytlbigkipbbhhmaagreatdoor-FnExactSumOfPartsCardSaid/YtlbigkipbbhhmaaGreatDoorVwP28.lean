import Derived.Test.YtlbigkipbbhhmaaGreatDoorVwP27
namespace Go.Vw
open Go.RowKit Dat
section
variable {d : Desc} {b : List UInt8}
def selP (d : Desc) (b : List UInt8) (pattern : Str) : List Entry := (indexP d b).filter (fun e => matchP pattern e.path)
theorem filter_next {α : Type} {f : α → Bool} {l : List α} {k : Nat} (hk : k < l.length) : (l.take (k + 1)).filter f = if f l[k] = true then (l.take k).filter f ++ [l[k]] else (l.take k).filter f := by
 rw [take_one hk, List.filter_append]
 cases h : f l[k] <;> simp [h]
theorem path_small {e : Entry} (he : e ∈ indexP d b) : e.path.b.length ≤ MX := by
 have hMX := MXv
 obtain ⟨_, _, i, p, L⟩ := entry_in he
 have := L.path
 omega
theorem psh_small {l : List Entry} (h : l.length ≤ 10000) (x : Entry) : psh l x = some (l ++ [x]) := psh_of (by rw [LIMv]; omega)
theorem take_small (f : Entry → Bool) (k : Nat) : (((indexP d b).take k).filter f).length ≤ 10000 := by
 have h1 := indexP_len (d := d) (b := b)
 have h2 := List.length_filter_le f ((indexP d b).take k)
 rw [List.length_take] at h2
 omega
theorem spec_Select {n : Nat} (hn : 1048600 ≤ n) (hd : SmD d) {pattern : Str} (hp : pattern.b.length ≤ MX) : M_spec_SelectParts n d b pattern = some (selP d b pattern) := by
 unfold M_spec_SelectParts selP
 rw [spec_BuildIndex hd (by omega)]
 simp only [bd2_some]
 refine (congrArg (fun z => bd z _) (forN_nextAt (fun k => ((indexP d b).take k).filter (fun e => matchP pattern e.path)) (n := (indexP d b).length) rfl (fun k hk => ?_))).trans ?_
 ·simp only [ix_ hk, bd_some, spec_MatchPath hn hp (path_small (gE_ hk))]
  rw [filter_next hk]
  cases matchP pattern (indexP d b)[k].path with
  | true => simp only [fT_]; rw [psh_small (take_small _ k)]; rfl
  | false => rfl
 ·rw [bd_some, el_inl, List.take_length]
theorem impl_Select {n : Nat} (hn : 1048600 ≤ n) (hd : SmD d) {pattern : Str} (hp : pattern.b.length ≤ MX) : M_impl_SelectParts n d b pattern = some (selP d b pattern) := by
 unfold M_impl_SelectParts
 rw [impl_BuildIndex hd (by omega)]
 simp only [bd2_some]
 cases hok : okF d b with
 | false =>
  have : selP d b pattern = [] := by unfold selP indexP; rw [hok]; rfl
  rw [this]; rfl
 | true =>
  simp only [nT_, bF_, fF_]
  unfold M_impl_selectEntries_impl_SelectParts_1 M_impl_SelectParts_1 selP
  refine (congrArg (fun z => bd (bd z _) _) (forN_nextAt (fun k => ((indexP d b).take k).filter (fun e => matchP pattern e.path)) (n := (indexP d b).length) rfl (fun k hk => ?_))).trans ?_
  ·simp only [ix_ hk, bd_some, impl_MatchPath hn hp (path_small (gE_ hk))]
   rw [filter_next hk]
   cases matchP pattern (indexP d b)[k].path with
   | true => simp only [fT_]; rw [psh_small (take_small _ k)]; rfl
   | false => rfl
  ·rw [bd_some, el_inl, List.take_length]; rfl
theorem selP_len (pattern : Str) : (selP d b pattern).length ≤ 10000 := by
 have h1 := indexP_len (d := d) (b := b)
 have h2 := List.length_filter_le (fun e : Entry => matchP pattern e.path) (indexP d b)
 unfold selP; omega
theorem law_SelectParts {n : Nat} (hn : 4000000 ≤ n) {pattern : Str} (hd : LnD d) (hb : b.length ≤ LEN) (hp : pattern.b.length ≤ LEN) : M_laws_FnExactSelectParts n d b pattern = some true := by
 have hMX := MXv; have hLEN := LENv
 unfold M_laws_FnExactSelectParts
 by_cases h1 : (1048576 : Int) < (b.length : Int)
 ·rw [dT_ h1]; rfl
 rw [dF_ h1]
 simp only [bF_, fF_]
 by_cases h3 : (1048576 : Int) < (pattern.b.length : Int)
 ·rw [dT_ h3]; rfl
 rw [dF_ h3]
 obtain ⟨r, hr, hr2⟩ := sz_desc hd
 simp only [bF_, fF_]
 rw [hr, bd_some]
 by_cases h2 : r < 0
 ·rw [dT_ h2]; rfl
 rw [dF_ h2]
 have hs := (hr2.resolve_left h2).2
 have hbm : b.length ≤ MX := by omega
 have hpm : pattern.b.length ≤ MX := by omega
 have hcl := selP_len (d := d) (b := b) pattern
 simp only [bF_, fF_, to_desc hs, to_byte hbm, bd_some, spec_Select (show 1048600 ≤ n by omega) hs hpm, impl_Select (show 1048600 ≤ n by omega) hs hpm]
 generalize selP d b pattern = u at hcl
 simp only [eq_entries, eq_desc, eq_byte, bd_some, nT_, bF_, fF_, bN_]
 obtain ⟨k', l', hm, hk0, hk1⟩ := mark_desc (n := n) hs (by omega)
 rw [hm]
 simp only [bd2_some]
 rw [mark_byte hk0 (by omega) (by omega)]
 simp only [bd2_some]
 rw [dF_ (show ¬ k' + (b.length : Int) < 0 by omega)]
 simp only [bF_, fF_, bd_some]
 rw [mark_entry (by omega) (by omega) (by omega) (by omega)]
 simp only [bd2_some]
 rw [held_entry (by omega) (by omega) (by omega)]
 simp only [bd_some]
 rw [dF_ (show ¬ 1 + 4 * (u.length : Int) < 0 by omega)]
 simp only [bF_, fF_, bN_]
def sumE (d : Desc) (b : List UInt8) (a : Int) (e : Entry) : Int := if (ruleAt d.rules e.rule).kind = 1 then a + intOf (piece b e.start.toNat e.end_.toNat) (ruleAt d.rules e.rule).little else a
def sumP (d : Desc) (b : List UInt8) (pattern : Str) : Int := (selP d b pattern).foldl (sumE d b) 0
theorem int_part (hv : valid d = true) {i p : Nat} (hi : i < d.rules.length) (hp : p ≤ b.length) (hok : (rdW d.rules b i p).2.2 = 0) (h1 : d.rules[i].kind = 1) : p ≤ (rdW d.rules b i p).2.1 ∧ (rdW d.rules b i p).2.1 ≤ b.length ∧ (rdW d.rules b i p).2.1 ≤ p + 4 := by
 have hle := rdW_le hv i hi p hp
 refine ⟨hle.1, hle.2, ?_⟩
 have hr := valid_rule hv hi
 have hin := k_int hr.kind h1
 rw [rdW_eq hv hi hp] at *
 generalize d.rules[i] = r at *
 unfold rdB at *
 rw [h1] at hok ⊢
 simp only [bQ_, fT_] at hok ⊢
 obtain ⟨_, _, h4⟩ := hin
 cases hq : rdInt b r p with
 | none => rw [hq] at hok; cases hok
 | some n => simp only; omega
theorem sum_step {e : Entry} (he : e ∈ indexP d b) (a : Int) : ∃ q : Nat, e.rule = (q : Int) ∧ ∃ hq : q < d.rules.length, ruleAt d.rules e.rule = d.rules[q] ∧ (d.rules[q].kind = 1 → slc b e.start e.end_ = some (piece b e.start.toNat e.end_.toNat) ∧ (piece b e.start.toNat e.end_.toNat).length ≤ 4) := by
 obtain ⟨hv, hb, i, p, L⟩ := entry_in he
 refine ⟨i, L.rule, L.hi, ?_, fun h1 => ?_⟩
 ·rw [L.rule]
  unfold ruleAt
  simp [gD_, L.hi]
 ·obtain ⟨h2, h3, h4⟩ := int_part hv L.hi L.hp L.ok h1
  rw [L.start, L.end_]
  simp only [tN_]
  refine ⟨slc_piece h2 h3, ?_⟩
  rw [piece_len h3]; omega
theorem sumE_bound {l : List Entry} (hl : ∀ e ∈ l, e ∈ indexP d b) : 0 ≤ l.foldl (sumE d b) 0 ∧ l.foldl (sumE d b) 0 ≤ 4294967296 * l.length := by
 have key : ∀ (l : List Entry) (a : Int), (∀ e ∈ l, e ∈ indexP d b) → 0 ≤ a → 0 ≤ l.foldl (sumE d b) a ∧ l.foldl (sumE d b) a ≤ a + 4294967296 * l.length := by
  intro l
  induction l with
  | nil => intro a _ h; exact ⟨h, by simp⟩
  | cons e l ih =>
   intro a h h0
   have hs : 0 ≤ sumE d b a e ∧ sumE d b a e ≤ a + 4294967296 := by
    obtain ⟨q, h1, hq, h2, h3⟩ := sum_step (h e mS_) a
    unfold sumE
    split
    ·rename_i hk
     rw [h2] at hk ⊢
     have := intOf_small (piece b e.start.toNat e.end_.toNat) d.rules[q].little (h3 hk).2
     omega
    ·omega
   have := ih (sumE d b a e) (fun x hx => h x (mT_ _ hx)) hs.1
   rw [List.foldl_cons, lC_]
   omega
 have := key l 0 hl (Int.le_refl 0)
 omega
theorem mem_sel {e : Entry} {pattern : Str} (h : e ∈ selP d b pattern) : e ∈ indexP d b := (List.mem_filter.1 h).1
theorem fold_next {l : List Entry} {k : Nat} (hk : k < l.length) : (l.take (k + 1)).foldl (sumE d b) 0 = sumE d b ((l.take k).foldl (sumE d b) 0) l[k] := by
 rw [take_one hk, List.foldl_append]; rfl
theorem sum_small {pattern : Str} {k : Nat} (hk : k < (selP d b pattern).length) : 0 ≤ ((selP d b pattern).take k).foldl (sumE d b) 0 ∧ ((selP d b pattern).take k).foldl (sumE d b) 0 ≤ 4294967296 * 10000 := by
 have h := sumE_bound (d := d) (b := b) (l := (selP d b pattern).take k) (fun e he => mem_sel (List.mem_of_mem_take he))
 have h1 := selP_len (d := d) (b := b) pattern
 rw [List.length_take] at h
 omega
theorem spec_Sum {n : Nat} (hn : 1048600 ≤ n) (hd : SmD d) {pattern : Str} (hp : pattern.b.length ≤ MX) : M_spec_SumOfParts n d b pattern = some (sumP d b pattern) := by
 unfold M_spec_SumOfParts sumP
 rw [spec_Select hn hd hp, bd_some]
 refine (congrArg (fun z => bd z _) (forN_nextAt (fun k => ((selP d b pattern).take k).foldl (sumE d b) 0) (n := (selP d b pattern).length) rfl (fun k hk => ?_))).trans ?_
 ·have hb := sum_small hk
  rw [fold_next hk]
  generalize ((selP d b pattern).take k).foldl (sumE d b) 0 = a at *
  obtain ⟨q, h1, hq, h2, h3⟩ := sum_step (mem_sel (gE_ hk)) a
  simp only [ix_ hk, bd_some]
  rw [h1, ix_ hq]
  simp only [bd_some]
  unfold sumE
  rw [h2]
  by_cases hk1 : d.rules[q].kind = 1
  ·rw [show (d.rules[q].kind == 1) = true by simpa using hk1, iP_ hk1]
   obtain ⟨e1, e2⟩ := h3 hk1
   have hi := intOf_small (piece b (selP d b pattern)[k].start.toNat (selP d b pattern)[k].end_.toNat) d.rules[q].little e2
   simp only [fT_, e1, bd_some]
   rw [spec_ReadInteger _ _ e2, bd_some, ia_ (by omega) (by omega)]
   rfl
  ·rw [show (d.rules[q].kind == 1) = false by simpa using hk1, iN_ hk1]
   rfl
 ·rw [bd_some, el_inl, List.take_length]
theorem impl_Sum {n : Nat} (hn : 1048600 ≤ n) (hd : SmD d) {pattern : Str} (hp : pattern.b.length ≤ MX) : M_impl_SumOfParts n d b pattern = some (sumP d b pattern) := by
 unfold M_impl_SumOfParts sumP
 rw [impl_Select hn hd hp, bd_some]
 refine (congrArg (fun z => bd z _) (forN_nextAt (fun k => ((selP d b pattern).take k).foldl (sumE d b) 0) (n := (selP d b pattern).length) rfl (fun k hk => ?_))).trans ?_
 ·have hb := sum_small hk
  rw [fold_next hk]
  generalize ((selP d b pattern).take k).foldl (sumE d b) 0 = a at *
  obtain ⟨q, h1, hq, h2, h3⟩ := sum_step (mem_sel (gE_ hk)) a
  simp only [ix_ hk, bd_some]
  rw [h1, ix_ hq]
  simp only [bd_some]
  unfold sumE
  rw [h2]
  by_cases hk1 : d.rules[q].kind = 1
  ·rw [show (d.rules[q].kind == 1) = true by simpa using hk1, iP_ hk1]
   obtain ⟨e1, e2⟩ := h3 hk1
   have hi := intOf_small (piece b (selP d b pattern)[k].start.toNat (selP d b pattern)[k].end_.toNat) d.rules[q].little e2
   simp only [fT_, e1, bd_some]
   rw [impl_ReadInteger _ _ e2, bd_some, ia_ (by omega) (by omega)]
   rfl
  ·rw [show (d.rules[q].kind == 1) = false by simpa using hk1, iN_ hk1]
   rfl
 ·rw [bd_some, el_inl, List.take_length]
theorem law_SumOfParts {n : Nat} (hn : 4000000 ≤ n) {pattern : Str} (hd : LnD d) (hb : b.length ≤ LEN) (hp : pattern.b.length ≤ LEN) : M_laws_FnExactSumOfParts n d b pattern = some true := by
 have hMX := MXv; have hLEN := LENv
 unfold M_laws_FnExactSumOfParts
 by_cases h1 : (1048576 : Int) < (b.length : Int)
 ·rw [dT_ h1]; rfl
 rw [dF_ h1]
 simp only [bF_, fF_]
 by_cases h3 : (1048576 : Int) < (pattern.b.length : Int)
 ·rw [dT_ h3]; rfl
 rw [dF_ h3]
 obtain ⟨r, hr, hr2⟩ := sz_desc hd
 simp only [bF_, fF_]
 rw [hr, bd_some]
 by_cases h2 : r < 0
 ·rw [dT_ h2]; rfl
 rw [dF_ h2]
 have hs := (hr2.resolve_left h2).2
 have hbm : b.length ≤ MX := by omega
 have hpm : pattern.b.length ≤ MX := by omega
 simp only [bF_, fF_, to_desc hs, to_byte hbm, bd_some, spec_Sum (show 1048600 ≤ n by omega) hs hpm, impl_Sum (show 1048600 ≤ n by omega) hs hpm, eq_desc, eq_byte, nT_, bN_]
end
end Go.Vw
