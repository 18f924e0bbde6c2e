import Derived.Test.YteefdabnmfpogaaGreatDoorVwP16
namespace Go.Vw
open Go.RowKit Dat
def joinB (ss : List Str) : List UInt8 := ss.flatMap (fun s => 47 :: s.b)
inductive Reach (d : Desc) (b : List UInt8) : Nat → Nat → List Str → Nat → Nat → Prop
 | nil (i p : Nat) : Reach d b i p [] i p
 | cons {i p i' p' k q : Nat} {s : Str} {ss : List Str} (h : StepTo d b i p s k q) (hr : Reach d b k q ss i' p') : Reach d b i p (s :: ss) i' p'
structure Located (d : Desc) (b : List UInt8) (path : Str) (i p : Nat) (e : Entry) (ss : List Str) (i' p' : Nat) : Prop where
 path : e.path.b = path.b ++ joinB ss
 good : ∀ s ∈ ss, Good s
 rule : e.rule = i'
 start : e.start = p'
 end_ : e.end_ = ((rdW d.rules b i' p').2.1 : Nat)
 reach : Reach d b i p ss i' p'
 len : ss.length + i' ≤ i
 hi : i' < d.rules.length
 hp : p' ≤ b.length
 ok : (rdW d.rules b i' p').2.2 = 0
section
variable {d : Desc} {b : List UInt8}
theorem mem_ixL {f : Int → Nat → Str → List Entry} {en : Int → Nat → Nat} {r : Rule} {path : Str} {x : Entry} : ∀ (ks : List Int) (j pos : Nat), x ∈ ixL f en r path ks j pos → ∃ m, ∃ hm : m < ks.length, x ∈ f ks[m] (posN en ks pos m) (pathP r path (j + m))
 | [], _, _, h => by simp [ixL] at h
 | k :: ks, j, pos, h => by
  unfold ixL at h
  rcases List.mem_append.1 h with h | h
  ·exact ⟨0, by simp, h⟩
  ·obtain ⟨m, hm, h⟩ := mem_ixL ks (j + 1) (en k pos) h
   refine ⟨m + 1, by simpa using hm, ?_⟩
   rw [posN_cons]
   rw [show j + (m + 1) = j + 1 + m by omega]
   exact h
theorem located (hv : valid d = true) (hd : SmD d) (hb : b.length ≤ 400) : ∀ (i : Nat), i < d.rules.length → ∀ (at_ : Nat) (path : Str) (e : Entry), at_ ≤ b.length → (rdW d.rules b i at_).2.2 = 0 → e ∈ ixW d.rules b i at_ path → ∃ ss i' p', Located d b path i at_ e ss i' p' := by
 intro i
 induction i using Nat.strongRecOn with
 | _ i ih =>
  intro hi at_ path x ha hok hx
  obtain ⟨ks, e, h⟩ := rdW_ok hv hi ha hok
  rw [ixW_eq hv hi h path] at hx
  rcases List.mem_cons.1 hx with rfl | hx
  ·exact ⟨[], i, at_, by simp [joinB], fun _ h => by simp at h, rfl, rfl, rfl, .nil _ _, by simp, hi, ha, hok⟩
  ·obtain ⟨m, hm, hx⟩ := mem_ixL _ _ _ hx
   have hkr := (valid_rule hv hi).kids _ (h.kids _ (List.getElem_mem hm))
   have hP := chain_pos h.ch m hm
   rw [Nat.zero_add] at hx
   obtain ⟨ss, i', p', L⟩ := ih ks[m].toNat (by omega) (by omega) _ _ x hP.1 hP.2 hx
   obtain ⟨S, G⟩ := step_to hv hd hb hi ha hok h hm
   refine ⟨stepP d.rules[i] m :: ss, i', p', ?_, ?_, L.rule, L.start, L.end_, .cons S L.reach, ?_, L.hi, L.hp, L.ok⟩
   ·rw [L.path]; simp [pathP, joinB]
   ·intro s hs
    rcases List.mem_cons.1 hs with rfl | hs
    ·exact G
    ·exact L.good s hs
   ·have := L.len; simp; omega
theorem joinB_len : ∀ (ss : List Str), (∀ s ∈ ss, Good s) → (joinB ss).length ≤ 22 * ss.length
 | [], _ => by simp [joinB]
 | s :: ss, h => by
  have := joinB_len ss (fun s hs => h s (List.mem_cons_of_mem _ hs))
  have := (h s List.mem_cons_self).len
  simp [joinB] at *; omega
theorem split_join : ∀ (ss : List Str) (cur : List UInt8), (∀ s ∈ ss, Good s) → splitL 47 (joinB ss) cur = ⟨cur⟩ :: ss
 | [], cur, _ => by simp [joinB, splitL]
 | s :: ss, cur, h => by
  have e : joinB (s :: ss) = 47 :: (s.b ++ joinB ss) := by simp [joinB]
  rw [e, splitL, if_pos rfl, splitL_app _ _ _ _ (h s List.mem_cons_self).char, split_join ss _ (fun s hs => h s (List.mem_cons_of_mem _ hs))]
  simp
theorem splitP_join (ss : List Str) (h : ∀ s ∈ ss, Good s) : splitP ⟨joinB ss⟩ = (ss, true) := by
 unfold splitP
 by_cases hn : ss = []
 ·subst hn; rfl
 ·obtain ⟨s, t, rfl⟩ := List.exists_cons_of_ne_nil hn
  rw [if_neg (by simp [joinB]), split_join _ _ h, if_pos ⟨rfl, by
   rw [List.tail_cons, List.all_eq_true]; exact fun s hs => (h s hs).step⟩]
  simp
theorem reach_loop {n : Nat} (hn : 1000 ≤ n) {l : List Str} {i p i' p' : Nat} {ss : List Str} (h : Reach d b i p ss i' p') : ∀ k, k + ss.length = l.length → l.drop k = ss →
  forN (σ := Int × Int) (ρ := Entry × Bool) (fun k281 => (un2 fun x274 x276 => bd (idx l ((k281 : Nat) : Int)) fun x361 => bd3 (M_spec_l20Step n d x274 b x276 x361) fun r386 r387 r388 => if (!r388) = true then some (.ret ((⟨(⟨[]⟩ : Str), 0, 0, 0⟩ : Entry), false)) else some (.next (r386, r387)))) ss.length k ((i : Int), (p : Int)) = some (.inl ((i' : Int), (p' : Int))) := by
 induction h with
 | nil => intro k _ _; rfl
 | @cons i p i' p' k' q s ss h _ ih =>
  intro k hk hd
  have hlt : k < l.length := by simp at hk; omega
  rw [List.drop_eq_getElem_cons hlt] at hd
  simp only [List.cons.injEq] at hd
  rw [List.length_cons, forN, idx_get hlt]
  simp only [un2, bd_some]
  rw [hd.1, h n hn]
  simp only [bd3_some, Bool.not_true, Bool.false_eq_true, if_false]
  exact ih (k + 1) (by simp at hk; omega) hd.2
theorem spec_ReadPart {n : Nat} (hn : 1000 ≤ n) (hd : SmD d) (hok : okF d b = true) {e : Entry} (he : e ∈ indexP d b) :
  ∃ i p : Nat, e.rule = i ∧ e.start = p ∧ i < d.rules.length ∧ p ≤ b.length ∧ (rdW d.rules b i p).2.2 = 0 ∧ M_spec_ReadPart n d b e.path = some ((rdW d.rules b i p).1, true) := by
 obtain ⟨hv, hb, hr, hroot, hrd, _⟩ := okF_ok hok
 unfold indexP at he
 rw [if_pos hok] at he
 obtain ⟨ss, i, p, L⟩ := located hv hd hb _ hr 0 ⟨[]⟩ e (Nat.zero_le _) hrd he
 refine ⟨i, p, L.rule, L.start, L.hi, L.hp, L.ok, ?_⟩
 have hpath : e.path = ⟨joinB ss⟩ := by
  have := L.path
  cases hq : e.path with
  | mk x => rw [hq] at this; simpa using this
 have hlen := (valid_len hv).2
 have hj := joinB_len ss L.good
 have hl := L.len
 have hMX := MXv
 have hread := spec_read hv hd hb i L.hi n (by omega) p L.hp
 unfold M_spec_ReadPart M_spec_LocatePart
 rw [hpath, spec_SplitPath (by omega) (by simp only; omega) (by simp only; omega), splitP_join ss L.good]
 simp only [bd2_some, Bool.not_true, Bool.false_eq_true, if_false]
 rw [spec_IsValidDescription d hd, hv]
 simp only [bd_some, Bool.not_true, Bool.false_eq_true, if_false]
 rw [decide_eq_false (show ¬ (400 : Int) < (b.length : Int) by omega), if_neg (by simp), spec_RootOf hd, bd_some, hroot]
 have hloop := reach_loop hn L.reach (l := ss) 0 (by omega) rfl
 have hloop' : forN (σ := Int × Int) (ρ := Entry × Bool) (fun k281 => (un2 fun x274 x276 => bd (idx ss ((k281 : Nat) : Int)) fun x361 => bd3 (M_spec_l20Step n d x274 b x276 x361) fun r386 r387 r388 => if (!r388) = true then some (.ret ((⟨(⟨[]⟩ : Str), 0, 0, 0⟩ : Entry), false)) else some (.next (r386, r387)))) ss.length 0 (((d.rules.length - 1 : Nat) : Int), 0) = some (.inl ((i : Int), (p : Int))) := hloop
 rw [hloop', bd_some, el_inl]
 simp only [un2]
 rw [hread]
 unfold castR
 rw [L.ok]
 simp only [bd3_some, bne_self_eq_false, Bool.false_eq_true, if_false, bd2_some, Bool.not_true]
 rw [hread]
 rfl
theorem readV_at (hv : valid d = true) (hb : b.length ≤ 400) {i p : Nat} (hi : i < d.rules.length) (hp : p ≤ b.length) : readV d i b p = castR (rdW d.rules b i p) := by
 unfold readV
 rw [if_pos]
 ·simp
 ·unfold okV isRule
  rw [hv, decide_eq_true (show (0 : Int) ≤ (i : Int) by omega), decide_eq_true (show (i : Int) < (d.rules.length : Int) by omega), decide_eq_true (show (0 : Int) ≤ (p : Int) by omega), decide_eq_true (show (p : Int) ≤ (b.length : Int) by omega), decide_eq_true (show (b.length : Int) ≤ 400 by omega)]
  rfl
theorem choice_num (hv : valid d = true) {i p : Nat} (hi : i < d.rules.length) (hp : p ≤ b.length) (hok : (rdW d.rules b i p).2.2 = 0) (h7 : d.rules[i].kind = 7) : 0 ≤ (rdW d.rules b i p).1.number ∧ (rdW d.rules b i p).1.number < 4294967296 := by
 have hr := valid_rule hv hi
 rw [rdW_eq hv hi hp] at *
 generalize d.rules[i] = r at *
 unfold rdB at *
 rw [h7] at hok ⊢
 simp only [show ((7 : Int) == 1) = false from rfl, show ((7 : Int) == 2) = false from rfl, show ((7 : Int) == 3) = false from rfl, show ((7 : Int) == 4) = false from rfl, show ((7 : Int) == 10) = false from rfl, Bool.false_eq_true, if_false] at hok ⊢
 have hq := lim_int (k_choice hr.kind h7).1
 cases hh : headC d.rules b r p with
 | inl c => exact ⟨show (0 : Int) ≤ 0 by decide, show (0 : Int) < 4294967296 by decide⟩
 | inr y =>
  obtain ⟨num, ks, st⟩ := y
  rw [hh] at hok
  simp only at hok ⊢
  have f := fin_head hok (fun h => by omega)
  rw [f.2.1]
  unfold headC at hh
  rw [h7] at hh
  simp only [show ((7 : Int) == 5) = false from rfl, show ((7 : Int) == 6) = false from rfl, Bool.false_eq_true, if_false, beq_self_eq_true, if_true] at hh
  cases hi : rdInt b (ruleAt d.rules (kid0 r)) p with
  | none => rw [hi] at hh; cases hh
  | some n =>
   rw [hi] at hh
   simp only at hh
   have := rdInt_range hq.2 hi
   cases ht : tagIx r.tags n with
   | none => rw [ht] at hh; cases hh
   | some k =>
    rw [ht] at hh
    simp only at hh
    rw [Sum.inr.injEq, Prod.mk.injEq] at hh
    rw [← hh.1]
    exact ⟨this.1, this.2.1⟩
end
theorem sep_inj : ∀ {s s' t t' : List UInt8}, (∀ c ∈ s, c ≠ 58) → (∀ c ∈ s', c ≠ 58) → s ++ 58 :: t = s' ++ 58 :: t' → s = s' ∧ t = t'
 | [], [], _, _, _, _, h => by simpa using h
 | [], c :: s', _, _, _, h2, h => by simp only [List.nil_append, List.cons_append, List.cons.injEq] at h; exact absurd h.1.symm (h2 c List.mem_cons_self)
 | c :: s, [], _, _, h1, _, h => by simp only [List.nil_append, List.cons_append, List.cons.injEq] at h; exact absurd h.1 (h1 c List.mem_cons_self)
 | c :: s, c' :: s', t, t', h1, h2, h => by
  simp only [List.cons_append, List.cons.injEq] at h
  have := sep_inj (fun c hc => h1 c (List.mem_cons_of_mem _ hc)) (fun c hc => h2 c (List.mem_cons_of_mem _ hc)) h.2
  exact ⟨by rw [h.1, this.1], this.2⟩
def tagT (d : Desc) (i : Nat) (num : Int) : Str := ⟨(d.rules.getD i default).name.b ++ [58] ++ Lib.itoa num⟩
theorem tagT_inj {d : Desc} (hv : valid d = true) {i j x y : Nat} (hi : i < d.rules.length) (hj : j < d.rules.length) (h : (tagT d i x).b = (tagT d j y).b) : i = j ∧ x = y := by
 unfold tagT at h
 rw [getD_get hi, getD_get hj] at h
 simp only [List.append_assoc, List.singleton_append] at h
 have := sep_inj (fun c hc => (name_char (valid_rule hv hi).name c hc).2) (fun c hc => (name_char (valid_rule hv hj).name c hc).2) h
 exact ⟨rule_names hv hi hj this.1, itoa_inj this.2⟩
def covB (d : Desc) (b : List UInt8) (out : List Str) (e : Entry) : List Str :=
 if (d.rules.getD e.rule.toNat default).kind != 7 then out else
  if hasText out (tagT d e.rule.toNat (rdW d.rules b e.rule.toNat e.start.toNat).1.number) then out else out ++ [tagT d e.rule.toNat (rdW d.rules b e.rule.toNat e.start.toNat).1.number]
def covP (d : Desc) (b : List UInt8) : List Str := (indexP d b).foldl (covB d b) []
theorem covB_len (d : Desc) (b : List UInt8) : ∀ (l : List Entry) (out : List Str), (l.foldl (covB d b) out).length ≤ out.length + l.length
 | [], out => by simp
 | e :: l, out => by
  have := covB_len d b l (covB d b out e)
  have h : (covB d b out e).length ≤ out.length + 1 := by unfold covB; split <;> (try split) <;> simp
  simp only [List.foldl_cons, List.length_cons]; omega
theorem itoa_lenB {x : Nat} (h : x < 4294967296) : (Lib.itoa x).length ≤ 20 := by
 have := dec_len 12 x (by omega)
 rw [itoa_nat]; omega
section
variable {d : Desc} {b : List UInt8}
theorem indexP_len' : (indexP d b).length ≤ 10000 := by
 unfold indexP
 split
 ·rename_i h
  obtain ⟨hv, hb, hi, _, hok, _⟩ := okF_ok h
  exact ixW_small hv hb hi _ (Nat.zero_le _) hok
 ·simp
theorem entry_at {n : Nat} (hn : 1000 ≤ n) (hd : SmD d) {k : Nat} (hk : k < (indexP d b).length) : valid d = true ∧ b.length ≤ 400 ∧ ∃ i p : Nat, (indexP d b)[k].rule = i ∧ (indexP d b)[k].start = p ∧ ∃ hi : i < d.rules.length, p ≤ b.length ∧ (rdW d.rules b i p).2.2 = 0 ∧ M_spec_ReadPart n d b (indexP d b)[k].path = some ((rdW d.rules b i p).1, true) ∧
  M_impl_ReadValue n d i b p = some (castR (rdW d.rules b i p)) ∧ (d.rules[i].kind = 7 → ∃ x : Nat, (rdW d.rules b i p).1.number = x ∧ x < 4294967296) := by
 have hok : okF d b = true := by
  cases h : okF d b with
  | true => rfl
  | false => unfold indexP at hk; rw [h] at hk; simp at hk
 obtain ⟨hv, hb, _⟩ := okF_ok hok
 obtain ⟨i, p, h1, h2, h3, h4, h5, h6⟩ := spec_ReadPart hn hd hok (List.getElem_mem hk)
 refine ⟨hv, hb, i, p, h1, h2, h3, h4, h5, h6, ?_, fun h7 => ?_⟩
 ·rw [impl_ReadValue hd (by omega), readV_at hv hb h3 h4]
 ·have := choice_num hv h3 h4 h5 h7
  exact ⟨(rdW d.rules b i p).1.number.toNat, by omega, by omega⟩
theorem spec_Covered {n : Nat} (hn : 1000 ≤ n) (hd : SmD d) : M_spec_CoveredTags n d b = some (covP d b) := by
 have hLIM := LIMv
 unfold M_spec_CoveredTags
 rw [spec_BuildIndex hd hn, bd2_some]
 have hlen : (indexP d b).length ≤ 10000 := indexP_len'
 refine (congrArg (fun z => bd z _) (forN_next (st := fun k => ((indexP d b).take k).foldl (covB d b) []) (fun k hk => ?_))).trans ?_
 rotate_left
 ·rw [bd_some, el_inl, List.take_length]; rfl
 ·obtain ⟨hv, hb, i, p, h1, h2, hi, hp, hok, hrp, hrv, hnum⟩ := entry_at (n := n) hn hd hk
  have hol := covB_len d b ((indexP d b).take k) []
  rw [fold_take _ _ hk]
  generalize ((indexP d b).take k).foldl (covB d b) [] = out at *
  have hout : out.length ≤ 10000 := by simp at hol; omega
  rw [idx_get hk]
  simp only [bd_some]
  rw [h1, idx_get hi]
  simp only [bd_some]
  unfold covB
  rw [h1, h2, Int.toNat_natCast, Int.toNat_natCast, getD_get hi]
  by_cases h7 : d.rules[i].kind = 7
  ·rw [show (d.rules[i].kind != 7) = false by simpa using h7]
   simp only [Bool.false_eq_true, if_false]
   rw [hrp]
   simp only [bd2_some, bd_some, un3]
   obtain ⟨x, hx, hx2⟩ := hnum h7
   have hnl := nameOk_len (valid_rule hv hi).name
   have hil := itoa_lenB hx2
   rw [hx, cat_of (by simp; omega), bd_some, spec_FormatIntB (by omega) x (by omega), bd_some, cat_of (by simp; omega), bd_some, spec_ContainsText, bd_some]
   have ht : (⟨d.rules[i].name.b ++ [58] ++ Lib.itoa (x : Int)⟩ : Str) = tagT d i (x : Int) := by unfold tagT; rw [getD_get hi]
   rw [ht]
   cases hasText out (tagT d i (x : Int)) with
   | true => rfl
   | false =>
    simp only [Bool.not_false, if_true, Bool.false_eq_true, if_false]
    rw [psh_of (by omega)]; rfl
  ·rw [show (d.rules[i].kind != 7) = true by simpa using h7]; rfl
theorem impl_Covered {n : Nat} (hn : 1000 ≤ n) (hd : SmD d) : M_impl_CoveredTags n d b = some (covP d b) := by
 have hLIM := LIMv
 unfold M_impl_CoveredTags
 rw [impl_BuildIndex hd hn, bd2_some]
 have hlen : (indexP d b).length ≤ 10000 := indexP_len'
 rcases forN_inv (σ := (List Str) × (TagKey → Bool)) (ρ := (List Str)) (body := (fun k684 => (un2 fun x671 x679 => bd (α := (List Str) × (TagKey → Bool)) (bd (idx (indexP d b) ((k684 : Nat) : Int)) fun x1000 => bd (idx d.rules x1000.rule) fun x1035 => if (x1035.kind != 7) = true then some (x671, x679) else bd3 (M_impl_ReadValue n d x1000.rule b x1000.start) fun r1165 r1166 r1167 => bd (α := (List Str) × (TagKey → Bool)) (if (!(x679 ((⟨x1000.rule, r1165.number⟩ : TagKey) : TagKey))) = true then bd (cat x1035.name (⟨[58]⟩ : Str)) fun x1360 => bd (M_impl_FormatInt r1165.number) fun r1387 => bd (cat x1360 r1387) fun x1393 => bd (psh x671 x1393) fun x1435 => some (x1435, (mput x679 ((⟨x1000.rule, r1165.number⟩ : TagKey) : TagKey) true)) else some (x671, x679)) (un2 fun x1328 x1336 => some (x1328, x1336))) (un2 fun x987 x995 => some (.next (x987, x995)))))) (I := fun k s => s.1 = ((indexP d b).take k).foldl (covB d b) [] ∧ ∀ (i x : Nat) (_ : i < d.rules.length), s.2 ⟨i, x⟩ = hasText s.1 (tagT d i x)) (R := fun _ => False) (n := (indexP d b).length) (fun k s hk hI => by
  obtain ⟨out, f⟩ := s
  obtain ⟨ho, hf⟩ := hI
  simp only at ho hf
  obtain ⟨hv, hb, i, p, h1, h2, hi, hp, hok, hrp, hrv, hnum⟩ := entry_at (n := n) hn hd hk
  have hol := covB_len d b ((indexP d b).take k) []
  rw [fold_take _ _ hk, ← ho]
  rw [← ho] at hol
  have hout : out.length ≤ 10000 := by simp at hol; omega
  left
  unfold covB
  rw [h1, h2, Int.toNat_natCast, Int.toNat_natCast, getD_get hi]
  by_cases h7 : d.rules[i].kind = 7
  ·obtain ⟨x, hx, hx2⟩ := hnum h7
   have hnl := nameOk_len (valid_rule hv hi).name
   have hil := itoa_lenB hx2
   rw [show (d.rules[i].kind != 7) = false by simpa using h7, hx]
   simp only [Bool.false_eq_true, if_false]
   have ht : (⟨d.rules[i].name.b ++ [58] ++ Lib.itoa (x : Int)⟩ : Str) = tagT d i (x : Int) := by unfold tagT; rw [getD_get hi]
   cases hht : hasText out (tagT d i (x : Int)) with
   | true =>
    refine ⟨(out, f), ?_, ?_, hf⟩
    ·simp only [un2]
     rw [idx_get hk, bd_some, h1, idx_get hi, bd_some, show (d.rules[i].kind != 7) = false by simpa using h7, h2, hrv]
     unfold castR
     simp only [Bool.false_eq_true, if_false, bd3_some]
     rw [hx, hf i x hi, hht]; rfl
    ·simp
   | false =>
    refine ⟨(out ++ [tagT d i (x : Int)], mput f ⟨(i : Int), (x : Int)⟩ true), ?_, ?_, fun j y hj => ?_⟩
    ·simp only [un2]
     rw [idx_get hk, bd_some, h1, idx_get hi, bd_some, show (d.rules[i].kind != 7) = false by simpa using h7, h2, hrv]
     unfold castR
     simp only [Bool.false_eq_true, if_false, bd3_some]
     rw [hx, hf i x hi, hht]
     simp only [Bool.not_false, if_true]
     unfold M_impl_FormatInt M_strconv_Itoa
     rw [cat_of (by simp; omega), bd_some, bd_some, bd_some, cat_of (by simp; omega), bd_some, psh_of (by omega), bd_some, bd_some]
     simp only [un2]
     rw [ht]
     rfl
    ·simp
    ·simp only [mput]
     by_cases hjy : j = i ∧ y = x
     ·obtain ⟨rfl, rfl⟩ := hjy
      rw [if_pos rfl]
      exact (hasText_iff.2 ⟨tagT d j y, by simp, rfl⟩).symm
     ·rw [if_neg (fun he => hjy (by
       simp only [TagKey.mk.injEq] at he
       omega)), hf j y hj]
      rw [Bool.eq_iff_iff, hasText_iff, hasText_iff]
      constructor
      ·rintro ⟨z, hz, h⟩; exact ⟨z, by simp [hz], h⟩
      ·rintro ⟨z, hz, h⟩
       simp only [List.mem_append, List.mem_singleton] at hz
       rcases hz with hz | rfl
       ·exact ⟨z, hz, h⟩
       ·have := tagT_inj hv hi hj h
        exact absurd ⟨this.1.symm, this.2.symm⟩ hjy
  ·refine ⟨(out, f), ?_, ?_, hf⟩
   ·simp only [un2]
    rw [idx_get hk, bd_some, h1, idx_get hi, bd_some, show (d.rules[i].kind != 7) = true by simpa using h7]; rfl
   ·rw [show (d.rules[i].kind != 7) = true by simpa using h7]; rfl) (indexP d b).length 0 (([] : List Str), (fun (_ : TagKey) => false)) (by omega) ⟨rfl, fun i x _ => by simp [hasText]⟩ with ⟨s, h1, h2⟩ | ⟨_, _, h⟩
 ·refine (congrArg (fun z => bd z _) h1).trans ?_
  obtain ⟨out, f⟩ := s
  rw [bd_some, el_inl]
  have h3 := h2.1
  rw [List.take_length] at h3
  exact congrArg some h3
 ·exact h.elim
end
end Go.Vw
