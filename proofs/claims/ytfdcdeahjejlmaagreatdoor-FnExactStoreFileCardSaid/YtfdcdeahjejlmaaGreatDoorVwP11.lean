import Derived.Test.YtfdcdeahjejlmaaGreatDoorVwP10
namespace Go.Vw
open Go.RowKit Dat
theorem forN_inv {σ ρ : Type} {body : Nat → σ → Option (Out σ ρ)} (I : Nat → σ → Prop) (R : ρ → Prop) {n : Nat} (h : ∀ k s, k < n → I k s → (∃ s', body k s = some (.next s') ∧ I (k + 1) s') ∨ (∃ r, body k s = some (.ret r) ∧ R r)) :
  ∀ m k s, k + m = n → I k s → (∃ s', forN body m k s = some (.inl s') ∧ I n s') ∨ (∃ r, forN body m k s = some (.inr r) ∧ R r)
 | 0, k, s, hk, hi => .inl ⟨s, rfl, by rw [← hk]; exact hi⟩
 | m + 1, k, s, hk, hi => by
  unfold forN
  rcases h k s (by omega) hi with ⟨s', h1, h2⟩ | ⟨r, h1, h2⟩
  ·rw [h1]; exact forN_inv I R h m (k + 1) s' (by omega) h2
  ·rw [h1]; exact .inr ⟨r, rfl, h2⟩
structure LnR (r : Rule) : Prop where
 name : r.name.b.length ≤ LEN
 bytes : r.bytes.length ≤ LEN
 names : r.names.length ≤ LEN
 tags : r.tags.length ≤ LEN
 kids : r.kids.length ≤ LEN
 each : ∀ s ∈ r.names, s.b.length ≤ LEN
structure LnD (d : Desc) : Prop where
 rules : d.rules.length ≤ LEN
 each : ∀ r ∈ d.rules, LnR r
theorem LENv : LEN = 140737488355328 := rfl
def left_ (l : Int) : Prop := 0 ≤ l ∧ l ≤ 1048576
theorem sz_one {α : Type} (a : List α) {left : Int} (hl : left_ left) (ha : a.length ≤ LEN) : (if (decide ((isub left (a.length : Int)) < 0)) = true then some (-1) else some (isub left (a.length : Int))) = some (if left < a.length then -1 else left - a.length) := by
 have := LENv
 unfold left_ at hl
 rw [isub_of (by omega) (by omega)]
 by_cases h : left < a.length
 ·rw [dT_ (by omega), iP_ h]; rfl
 ·rw [dF_ (by omega), iN_ h]; rfl
theorem take_set_drop {α : Type} {l : List α} {z : α} {j : Nat} (hj : j < l.length) : (l.take j ++ List.replicate (l.length - j) z).set j l[j] = l.take (j + 1) ++ List.replicate (l.length - (j + 1)) z := by
 rw [List.set_append_right _ _ (by simp; omega)]
 rw [show j - (l.take j).length = 0 by simp; omega, show l.length - j = (l.length - (j + 1)) + 1 by omega, List.replicate_succ, List.set_cons_zero, List.take_add_one, gG_ hj, Option.toList_some, List.append_assoc]
 rfl
theorem copy_loop {α ρ : Type} {l : List α} {z : α} (body : Nat → List α → Option (Out (List α) ρ)) (hb : ∀ k (hk : k < l.length) (c : List α), c.length = l.length → body k c = some (.next (c.set k l[k]))) :
  forN body l.length 0 (List.replicate l.length z) = some (.inl l) := by
 have h := forN_next (n := l.length) (body := body) (fun k => l.take k ++ List.replicate (l.length - k) z) (fun j hj => by
  rw [hb j hj _ (by simp; omega), take_set_drop hj])
 simpa using h
theorem to_byte {l : List UInt8} (hl : l.length ≤ MX) : M_laws_toByteS l = some l := by
 have := MXv; have := LIMv
 unfold M_laws_toByteS
 rw [mk0_of (by omega), bd_some, copy_loop _ (fun k hk c hc => by rw [ix_ hk, bd_some, upd_nat (by omega), bd_some])]; rfl
theorem to_int {l : List Int} (hl : l.length ≤ MX) : M_laws_toIntS l = some l := by
 have := MXv; have := LIMv
 unfold M_laws_toIntS
 rw [mk0_of (by omega), bd_some, copy_loop _ (fun k hk c hc => by rw [ix_ hk, bd_some, upd_nat (by omega), bd_some])]; rfl
theorem to_string {l : List Str} (hl : l.length ≤ MX) : M_laws_toStringS l = some l := by
 have := MXv; have := LIMv
 unfold M_laws_toStringS
 rw [mk0_of (by omega), bd_some, copy_loop _ (fun k hk c hc => by rw [ix_ hk, bd_some, upd_nat (by omega), bd_some])]; rfl
theorem to_rule {r : Rule} (hr : SmR r) : M_laws_toRule r = some r := by
 unfold M_laws_toRule
 rw [to_byte hr.bytes, bd_some, to_string hr.names, bd_some, to_int hr.tags, bd_some, to_int hr.kids, bd_some]
theorem to_desc {d : Desc} (hd : SmD d) : M_laws_toDescription d = some d := by
 have := MXv; have := LIMv; have := hd.rules
 unfold M_laws_toDescription M_laws_toRuleS
 rw [mk0_of (by omega), bd_some, copy_loop _ (fun k hk c hc => by rw [ix_ hk, bd_some, to_rule (hd.each _ (gE_ hk)), bd_some, upd_nat (by omega), bd_some])]; rfl
theorem eq_int (l : List Int) : M_laws_eqIntS l l = some true := by
 unfold M_laws_eqIntS
 rw [forN_next (fun _ => ()) (n := l.length) (fun j hj => by rw [ix_ hj]; simp only [bd_some, bN_, bF_, fF_])]
 simp
theorem eq_byte (l : List UInt8) : M_laws_eqByteS l l = some true := by
 unfold M_laws_eqByteS
 rw [forN_next (fun _ => ()) (n := l.length) (fun j hj => by rw [ix_ hj]; simp only [bd_some, bN_, bF_, fF_])]
 simp
theorem eq_string (l : List Str) : M_laws_eqStringS l l = some true := by
 unfold M_laws_eqStringS
 rw [forN_next (fun _ => ()) (n := l.length) (fun j hj => by rw [ix_ hj]; simp only [bd_some, bN_, bF_, fF_])]
 simp
theorem eq_rule (r : Rule) : M_laws_eqRule r r = some true := by
 unfold M_laws_eqRule
 simp only [eq_int, eq_byte, eq_string, bd_some, bN_, bF_, fF_, nT_]
theorem eq_desc (d : Desc) : M_laws_eqDescription d d = some true := by
 unfold M_laws_eqDescription M_laws_eqRuleS
 rw [forN_next (fun _ => ()) (n := d.rules.length) (fun j hj => by rw [ix_ hj]; simp only [bd_some, eq_rule, nT_, bF_, fF_])]
 simp
theorem mark_dec : ∀ (k x : Nat), x < 10 ^ k → x ≤ 4611686018427387904 → ∀ (s : Str) (n : Nat), k + 1 ≤ n → s.b.length + k ≤ 1000 →
  ∃ t, iter (σ := Int × Str) (ρ := Str) (un2 fun x54 x56 => if (decide (0 < x54)) = true then bd (cat (⟨[mkB (iadd 48 (irem x54 10))]⟩ : Str) x56) fun x89 => some (.next (iquo x54 10, x89)) else some (.brk (x54, x56))) n ((x : Int), s) = some (.inl t) ∧ t.2.b.length ≤ s.b.length + k
 | 0, x, h, _, s, n, hn, _ => by
  obtain ⟨m, rfl⟩ : ∃ m, n = m + 1 := ⟨n - 1, by omega⟩
  have : x = 0 := by simp at h; omega
  subst this
  exact ⟨(0, s), rfl, by simp⟩
 | k + 1, x, h, hb, s, n, hn, hs => by
  obtain ⟨m, rfl⟩ : ∃ m, n = m + 1 := ⟨n - 1, by omega⟩
  unfold iter
  simp only [un2]
  by_cases h0 : 0 < x
  ·rw [dT_ (show (0 : Int) < (x : Int) by omega), irem_of (by omega), iquo_of (by omega) (by omega) (by omega)]
   simp only [fT_]
   rw [cat_of (by rw [LIMv]; simp only [lC_, List.length_nil]; omega), bd_some, show (x : Int) / 10 = ((x / 10 : Nat) : Int) by omega]
   simp only
   obtain ⟨t, h1, h2⟩ := mark_dec k (x / 10) (by rw [Nat.pow_succ] at h; omega) (by omega) ⟨[mkB (iadd 48 ((x : Int) % 10))] ++ s.b⟩ m (by omega) (by simp; omega)
   refine ⟨t, h1, ?_⟩
   simp only [List.length_append, lC_, List.length_nil] at h2
   omega
  ·rw [dF_ (show ¬ (0 : Int) < (x : Int) by omega)]
   exact ⟨_, rfl, by simp only; omega⟩
theorem mark_text {n : Nat} (hn : 30 ≤ n) {k : Int} (h0 : 0 ≤ k) (hk : k ≤ 1152921504606846976) : ∃ t, M_laws_markText n k = some t ∧ t.b.length ≤ 30 := by
 unfold M_laws_markText
 by_cases h : k ≤ 0
 ·rw [dT_ h]; exact ⟨_, rfl, by simp⟩
 ·rw [dF_ h]
  simp only [bF_, fF_]
  obtain ⟨t, h1, h2⟩ := mark_dec 20 k.toNat (by omega) (by omega) ⟨[]⟩ n (by omega) (by simp)
  rw [show ((k.toNat : Nat) : Int) = k by omega] at h1
  rw [h1]
  simp only [List.length_nil] at h2
  simp only [bd_some, el_inl, un2]
  rw [cat_of (by rw [LIMv]; simp only [lC_, List.length_nil]; omega)]
  exact ⟨_, rfl, by simp only [List.length_append, lC_, List.length_nil]; omega⟩
theorem mark_set {α : Type} {l : List α} (f : Nat → α) {j : Nat} (hj : j < l.length) : ((List.range j).map f ++ l.drop j).set j (f j) = (List.range (j + 1)).map f ++ l.drop (j + 1) := by
 rw [List.set_append_right _ _ (by simp), show j - ((List.range j).map f).length = 0 by simp, dC_ hj, List.set_cons_zero, List.range_succ, List.map_append, List.append_assoc]
 rfl
theorem mark_loop {α ρ : Type} {l : List α} (f : Int → α) {k : Int} (h0 : 0 ≤ k) (hk : k + l.length ≤ 1152921504606846976) {n : Nat} (hn : l.length < n) {step : List α × Int × Int → Option (Out (List α × Int × Int) ρ)}
  (hs : ∀ (c : List α) (j : Nat) (x : Int), c.length = l.length → 0 ≤ x → x < 1152921504606846976 → j < c.length → step (c, x, (j : Int)) = some (.next (c.set j (f x), x + 1, ((j + 1 : Nat) : Int)))) (he : ∀ (c : List α) (j : Nat) (x : Int), ¬ j < c.length → step (c, x, (j : Int)) = some (.brk (c, x, (j : Int)))) :
  iter step n (l, k, 0) = some (.inl ((List.range l.length).map (fun (i : Nat) => f (k + i)), k + l.length, (l.length : Int))) := by
 have h := iter_brk (step := step) (m := n) (fun j => ((List.range j).map (fun (i : Nat) => f (k + i)) ++ l.drop j, k + j, (j : Int))) (j0 := l.length) (s := ((List.range l.length).map (fun (i : Nat) => f (k + i)), k + l.length, (l.length : Int))) hn (fun j hj => by
  rw [hs _ j _ (by simp; omega) (by omega) (by omega) (by simp; omega), mark_set (fun (i : Nat) => f (k + i)) hj]
  congr 4
  omega) (by
  rw [he _ _ _ (by simp)]
  simp)
 simpa using h
theorem mark_byte {n : Nat} {l : List UInt8} {k : Int} (h0 : 0 ≤ k) (hk : k + l.length ≤ 1152921504606846976) (hn : l.length < n) : M_laws_markByteS n l k = some (k + l.length, (List.range l.length).map (fun (i : Nat) => mkB (k + i))) := by
 unfold M_laws_markByteS
 rw [mark_loop mkB h0 hk hn (fun c j x hcl hx0 hx hj => by
  simp only [un3]
  rw [dT_ (show (j : Int) < (c.length : Int) by omega), iP_ rfl, upd_nat hj, bd_some, ia_ (by omega) (by omega), ia_ (x := (j : Int)) (by omega) (by omega)]; rfl) (fun c j x hj => by
  simp only [un3]
  rw [dF_ (show ¬ (j : Int) < (c.length : Int) by omega)]; rfl)]
 rfl
theorem mark_int {n : Nat} {l : List Int} {k : Int} (h0 : 0 ≤ k) (hk : k + l.length ≤ 1152921504606846976) (hn : l.length < n) : M_laws_markIntS n l k = some (k + l.length, (List.range l.length).map (fun (i : Nat) => k + i)) := by
 unfold M_laws_markIntS
 rw [mark_loop (fun x => x) h0 hk hn (fun c j x hcl hx0 hx hj => by
  simp only [un3]
  rw [dT_ (show (j : Int) < (c.length : Int) by omega), iP_ rfl, upd_nat hj, bd_some, ia_ (by omega) (by omega), ia_ (x := (j : Int)) (by omega) (by omega)]; rfl) (fun c j x hj => by
  simp only [un3]
  rw [dF_ (show ¬ (j : Int) < (c.length : Int) by omega)]; rfl)]
 rfl
def markS (n : Nat) (k : Int) : Str := (M_laws_markText n k).getD default
theorem mark_string {n : Nat} {l : List Str} {k : Int} (h0 : 0 ≤ k) (hk : k + l.length ≤ 1152921504606846976) (hn : l.length < n) (h30 : 30 ≤ n) : M_laws_markStringS n l k = some (k + l.length, (List.range l.length).map (fun (i : Nat) => markS n (k + i))) := by
 unfold M_laws_markStringS
 rw [mark_loop (markS n) h0 hk hn (fun c j x hcl hx0 hx hj => by
  simp only [un3]
  obtain ⟨t, ht, _⟩ := mark_text h30 hx0 (by omega : x ≤ 1152921504606846976)
  rw [dT_ (show (j : Int) < (c.length : Int) by omega), iP_ rfl, ht, bd_some, upd_nat hj, bd_some, ia_ (by omega) (by omega), ia_ (x := (j : Int)) (by omega) (by omega), show markS n x = t by unfold markS; rw [ht]; rfl]; rfl) (fun c j x hj => by
  simp only [un3]
  rw [dF_ (show ¬ (j : Int) < (c.length : Int) by omega)]; rfl)]
 rfl
theorem idx_set {α : Type} {l : List α} {j : Nat} {x : α} (h : j < l.length) : idx (l.set j x) (j : Int) = some x := by
 rw [ix_ (by simpa using h)]; simp
theorem upd_set {α : Type} {l : List α} {j : Nat} {x y : α} (h : j < l.length) : upd (l.set j x) (j : Int) y = some (l.set j y) := by
 rw [upd_nat (by simpa using h)]; simp
end Go.Vw
