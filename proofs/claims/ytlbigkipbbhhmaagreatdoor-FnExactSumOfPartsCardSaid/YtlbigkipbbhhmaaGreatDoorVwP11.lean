import Derived.Test.YtlbigkipbbhhmaaGreatDoorVwP10
namespace Go.Vw
open Go.RowKit Dat
theorem forN_inv {σ ρ : Type} {body : Nat → σ → Option (Out σ ρ)} (I : Nat → σ → Prop) (R : ρ → Prop) {n : Nat} (h : ∀ k s, k < n → I k s → (∃ s', body k s = some (.next s') ∧ I (k + 1) s') ∨ (∃ r, body k s = some (.ret r) ∧ R r)) :
  ∀ m k s, k + m = n → I k s → (∃ s', forN body m k s = some (.inl s') ∧ I n s') ∨ (∃ r, forN body m k s = some (.inr r) ∧ R r)
 | 0, k, s, hk, hi => .inl ⟨s, rfl, by rw [← hk]; exact hi⟩
 | m + 1, k, s, hk, hi => by
  unfold forN
  rcases h k s (by omega) hi with ⟨s', h1, h2⟩ | ⟨r, h1, h2⟩
  ·rw [h1]; exact forN_inv I R h m (k + 1) s' (by omega) h2
  ·rw [h1]; exact .inr ⟨r, rfl, h2⟩
theorem iter_inv {σ ρ : Type} {step : σ → Option (Out σ ρ)} (I : σ → Prop) (μ : σ → Nat) (B : σ → Prop) (h : ∀ s, I s → (∃ s', step s = some (.next s') ∧ I s' ∧ μ s' < μ s) ∨ (∃ s', step s = some (.brk s') ∧ B s')) :
  ∀ n s, I s → μ s < n → ∃ s', iter step n s = some (.inl s') ∧ B s'
 | 0, s, _, hm => by omega
 | n + 1, s, hi, hm => by
  unfold iter
  rcases h s hi with ⟨s', h1, h2, h3⟩ | ⟨s', h1, h2⟩
  ·rw [h1]; exact iter_inv I μ B h n s' h2 (by omega)
  ·rw [h1]; exact ⟨s', rfl, h2⟩
structure LnR (r : Rule) : Prop where
 name : r.name.b.length ≤ LEN
 bytes : r.bytes.length ≤ LEN
 names : r.names.length ≤ LEN
 tags : r.tags.length ≤ LEN
 kids : r.kids.length ≤ LEN
 each : ∀ s ∈ r.names, s.b.length ≤ LEN
structure LnD (d : Desc) : Prop where
 rules : d.rules.length ≤ LEN
 each : ∀ r ∈ d.rules, LnR r
theorem LENv : LEN = 140737488355328 := rfl
def left_ (l : Int) : Prop := 0 ≤ l ∧ l ≤ 1048576
theorem sz_one {α : Type} (a : List α) {left : Int} (hl : left_ left) (ha : a.length ≤ LEN) : (if (decide ((isub left (a.length : Int)) < 0)) = true then some (-1) else some (isub left (a.length : Int))) = some (if left < a.length then -1 else left - a.length) := by
 have := LENv
 unfold left_ at hl
 rw [isub_of (by omega) (by omega)]
 by_cases h : left < a.length
 ·rw [dT_ (by omega), iP_ h]; rfl
 ·rw [dF_ (by omega), iN_ h]; rfl
theorem sz_byte {a : List UInt8} {left : Int} (hl : left_ left) (ha : a.length ≤ LEN) : ∃ r, M_laws_szByteS a left = some r ∧ (r < 0 ∨ (left_ r ∧ a.length ≤ MX)) := by
 have := MXv
 refine ⟨_, sz_one a hl ha, ?_⟩
 unfold left_ at *
 split <;> omega
theorem sz_int {a : List Int} {left : Int} (hl : left_ left) (ha : a.length ≤ LEN) : ∃ r, M_laws_szIntS a left = some r ∧ (r < 0 ∨ (left_ r ∧ a.length ≤ MX)) := by
 have := MXv
 refine ⟨_, sz_one a hl ha, ?_⟩
 unfold left_ at *
 split <;> omega
theorem sz_string {a : List Str} {left : Int} (hl : left_ left) (ha : a.length ≤ LEN) (he : ∀ s ∈ a, s.b.length ≤ LEN) : ∃ r, M_laws_szStringS a left = some r ∧ (r < 0 ∨ (left_ r ∧ a.length ≤ MX ∧ ∀ s ∈ a, s.b.length ≤ MX)) := by
 have hMX := MXv; have hLEN := LENv
 unfold M_laws_szStringS
 unfold left_ at *
 rw [isub_of (by omega) (by omega)]
 by_cases h : left < a.length
 ·rw [dT_ (by omega)]; exact ⟨_, rfl, .inl (by omega)⟩
 ·rw [dF_ (by omega)]
  simp only [bF_, fF_]
  rcases forN_inv (σ := Int) (ρ := Int) (body := (fun k67 => (fun x62 => bd (idx a ((k67 : Nat) : Int)) fun x91 => if (decide ((isub x62 (x91.b.length : Int)) < 0)) = true then some (.ret (-1)) else some (.next (isub x62 (x91.b.length : Int))))))
   (fun k s => (0 ≤ s ∧ s ≤ 1048576) ∧ ∀ j (hj : j < a.length), j < k → a[j].b.length ≤ MX) (fun r => r < 0) (n := a.length) (fun k s hk hi => by
    have hx := he _ (gE_ hk)
    rw [ix_ hk, bd_some, isub_of (by omega) (by omega)]
    by_cases h0 : s - (a[k].b.length : Int) < 0
    ·rw [dT_ h0]; exact .inr ⟨_, rfl, by omega⟩
    ·rw [dF_ h0]
     refine .inl ⟨_, rfl, by omega, fun j hj hjk => ?_⟩
     by_cases hjk' : j < k
     ·exact hi.2 j hj hjk'
     ·have : j = k := by omega
      subst this
      omega) a.length 0 (left - a.length) (by omega) ⟨by omega, fun j _ h => by omega⟩ with ⟨s, h1, h2⟩ | ⟨r, h1, h2⟩
  ·rw [h1]
   exact ⟨s, rfl, .inr ⟨h2.1, by omega, fun t ht => by
    obtain ⟨j, hj, rfl⟩ := List.getElem_of_mem ht
    exact h2.2 j hj hj⟩⟩
  ·rw [h1]; exact ⟨r, rfl, .inl h2⟩
theorem sz_rule {a : Rule} {left : Int} (hl : left_ left) (ha : LnR a) : ∃ r, M_laws_szRule a left = some r ∧ (r < 0 ∨ (left_ r ∧ SmR a)) := by
 have hMX := MXv; have hLEN := LENv
 have hn := ha.name
 unfold M_laws_szRule
 rw [isub_of (by unfold left_ at hl; omega) (by unfold left_ at hl; omega)]
 by_cases h : left - (a.name.b.length : Int) < 0
 ·rw [dT_ h]; exact ⟨_, rfl, .inl (by omega)⟩
 rw [dF_ h]
 have h0 : left_ (left - (a.name.b.length : Int)) := by unfold left_ at *; omega
 obtain ⟨r1, e1, g1⟩ := sz_byte (a := a.bytes) h0 ha.bytes
 simp only [bF_, fF_]
 rw [e1, bd_some]
 by_cases k1 : r1 < 0
 ·rw [dT_ k1]; exact ⟨_, rfl, .inl (by omega)⟩
 rw [dF_ k1]
 have g1 := g1.resolve_left k1
 obtain ⟨r2, e2, g2⟩ := sz_string (a := a.names) g1.1 ha.names ha.each
 simp only [bF_, fF_]
 rw [e2, bd_some]
 by_cases k2 : r2 < 0
 ·rw [dT_ k2]; exact ⟨_, rfl, .inl (by omega)⟩
 rw [dF_ k2]
 have g2 := g2.resolve_left k2
 obtain ⟨r3, e3, g3⟩ := sz_int (a := a.tags) g2.1 ha.tags
 simp only [bF_, fF_]
 rw [e3, bd_some]
 by_cases k3 : r3 < 0
 ·rw [dT_ k3]; exact ⟨_, rfl, .inl (by omega)⟩
 rw [dF_ k3]
 have g3 := g3.resolve_left k3
 obtain ⟨r4, e4, g4⟩ := sz_int (a := a.kids) g3.1 ha.kids
 simp only [bF_, fF_]
 rw [e4, bd_some]
 by_cases k4 : r4 < 0
 ·rw [dT_ k4]; exact ⟨_, rfl, .inl (by omega)⟩
 rw [dF_ k4]
 have g4 := g4.resolve_left k4
 exact ⟨_, rfl, .inr ⟨g4.1, ⟨by unfold left_ at hl; omega, g1.2, g2.2.1, g3.2, g4.2, g2.2.2⟩⟩⟩
theorem sz_desc {d : Desc} (hd : LnD d) : ∃ r, M_laws_szDescription d 1048576 = some r ∧ (r < 0 ∨ (left_ r ∧ SmD d)) := by
 have hMX := MXv; have hLEN := LENv
 have hr := hd.rules
 unfold M_laws_szDescription M_laws_szRuleS
 rw [isub_of (by omega) (by omega)]
 by_cases h : (1048576 : Int) - (d.rules.length : Int) < 0
 ·rw [dT_ h]; exact ⟨_, rfl, .inl (by omega)⟩
 rw [dF_ h]
 simp only [bF_, fF_]
 rcases forN_inv (σ := Int) (ρ := Int) (body := (fun k119 => (fun x114 => bd (idx d.rules ((k119 : Nat) : Int)) fun x169 => bd (M_laws_szRule x169 x114) fun r198 => if (decide (r198 < 0)) = true then some (.ret (-1)) else some (.next r198))))
   (fun k s => left_ s ∧ ∀ j (hj : j < d.rules.length), j < k → SmR d.rules[j]) (fun r => r < 0) (n := d.rules.length) (fun k s hk hi => by
    obtain ⟨r, e, g⟩ := sz_rule hi.1 (hd.each _ (gE_ hk))
    rw [ix_ hk, bd_some, e, bd_some]
    by_cases h0 : r < 0
    ·rw [dT_ h0]; exact .inr ⟨_, rfl, by omega⟩
    ·rw [dF_ h0]
     have g := g.resolve_left h0
     refine .inl ⟨_, rfl, g.1, fun j hj hjk => ?_⟩
     by_cases hjk' : j < k
     ·exact hi.2 j hj hjk'
     ·have : j = k := by omega
      subst this
      exact g.2) d.rules.length 0 (1048576 - d.rules.length) (by omega) ⟨by unfold left_; omega, fun j _ h => by omega⟩ with ⟨s, h1, h2⟩ | ⟨r, h1, h2⟩
 ·rw [h1]
  have : ¬ s < 0 := by have := h2.1; unfold left_ at this; omega
  simp only [bd_some, el_inl]
  rw [dF_ this]
  exact ⟨s, rfl, .inr ⟨h2.1, by omega, fun t ht => by
   obtain ⟨j, hj, rfl⟩ := List.getElem_of_mem ht
   exact h2.2 j hj hj⟩⟩
 ·rw [h1]
  simp only [bd_some, el_inr]
  rw [dT_ h2]
  exact ⟨_, rfl, .inl (by omega)⟩
theorem take_set_drop {α : Type} {l : List α} {z : α} {j : Nat} (hj : j < l.length) : (l.take j ++ List.replicate (l.length - j) z).set j l[j] = l.take (j + 1) ++ List.replicate (l.length - (j + 1)) z := by
 rw [List.set_append_right _ _ (by simp; omega)]
 rw [show j - (l.take j).length = 0 by simp; omega, show l.length - j = (l.length - (j + 1)) + 1 by omega, List.replicate_succ, List.set_cons_zero, List.take_add_one, gG_ hj, Option.toList_some, List.append_assoc]
 rfl
theorem copy_loop {α ρ : Type} {l : List α} {z : α} (body : Nat → List α → Option (Out (List α) ρ)) (hb : ∀ k (hk : k < l.length) (c : List α), c.length = l.length → body k c = some (.next (c.set k l[k]))) :
  forN body l.length 0 (List.replicate l.length z) = some (.inl l) := by
 have h := forN_next (n := l.length) (body := body) (fun k => l.take k ++ List.replicate (l.length - k) z) (fun j hj => by
  rw [hb j hj _ (by simp; omega), take_set_drop hj])
 simpa using h
theorem to_byte {l : List UInt8} (hl : l.length ≤ MX) : M_laws_toByteS l = some l := by
 have := MXv; have := LIMv
 unfold M_laws_toByteS
 rw [mk0_of (by omega), bd_some, copy_loop _ (fun k hk c hc => by rw [ix_ hk, bd_some, upd_nat (by omega), bd_some])]; rfl
theorem to_int {l : List Int} (hl : l.length ≤ MX) : M_laws_toIntS l = some l := by
 have := MXv; have := LIMv
 unfold M_laws_toIntS
 rw [mk0_of (by omega), bd_some, copy_loop _ (fun k hk c hc => by rw [ix_ hk, bd_some, upd_nat (by omega), bd_some])]; rfl
theorem to_string {l : List Str} (hl : l.length ≤ MX) : M_laws_toStringS l = some l := by
 have := MXv; have := LIMv
 unfold M_laws_toStringS
 rw [mk0_of (by omega), bd_some, copy_loop _ (fun k hk c hc => by rw [ix_ hk, bd_some, upd_nat (by omega), bd_some])]; rfl
theorem to_rule {r : Rule} (hr : SmR r) : M_laws_toRule r = some r := by
 unfold M_laws_toRule
 rw [to_byte hr.bytes, bd_some, to_string hr.names, bd_some, to_int hr.tags, bd_some, to_int hr.kids, bd_some]
theorem to_desc {d : Desc} (hd : SmD d) : M_laws_toDescription d = some d := by
 have := MXv; have := LIMv; have := hd.rules
 unfold M_laws_toDescription M_laws_toRuleS
 rw [mk0_of (by omega), bd_some, copy_loop _ (fun k hk c hc => by rw [ix_ hk, bd_some, to_rule (hd.each _ (gE_ hk)), bd_some, upd_nat (by omega), bd_some])]; rfl
theorem eq_int (l : List Int) : M_laws_eqIntS l l = some true := by
 unfold M_laws_eqIntS
 rw [forN_next (fun _ => ()) (n := l.length) (fun j hj => by rw [ix_ hj]; simp only [bd_some, bN_, bF_, fF_])]
 simp
theorem eq_byte (l : List UInt8) : M_laws_eqByteS l l = some true := by
 unfold M_laws_eqByteS
 rw [forN_next (fun _ => ()) (n := l.length) (fun j hj => by rw [ix_ hj]; simp only [bd_some, bN_, bF_, fF_])]
 simp
theorem eq_string (l : List Str) : M_laws_eqStringS l l = some true := by
 unfold M_laws_eqStringS
 rw [forN_next (fun _ => ()) (n := l.length) (fun j hj => by rw [ix_ hj]; simp only [bd_some, bN_, bF_, fF_])]
 simp
theorem eq_rule (r : Rule) : M_laws_eqRule r r = some true := by
 unfold M_laws_eqRule
 simp only [eq_int, eq_byte, eq_string, bd_some, bN_, bF_, fF_, nT_]
theorem eq_desc (d : Desc) : M_laws_eqDescription d d = some true := by
 unfold M_laws_eqDescription M_laws_eqRuleS
 rw [forN_next (fun _ => ()) (n := d.rules.length) (fun j hj => by rw [ix_ hj]; simp only [bd_some, eq_rule, nT_, bF_, fF_])]
 simp
theorem mark_dec : ∀ (k x : Nat), x < 10 ^ k → x ≤ 4611686018427387904 → ∀ (s : Str) (n : Nat), k + 1 ≤ n → s.b.length + k ≤ 1000 →
  ∃ t, iter (σ := Int × Str) (ρ := Str) (un2 fun x54 x56 => if (decide (0 < x54)) = true then bd (cat (⟨[mkB (iadd 48 (irem x54 10))]⟩ : Str) x56) fun x89 => some (.next (iquo x54 10, x89)) else some (.brk (x54, x56))) n ((x : Int), s) = some (.inl t) ∧ t.2.b.length ≤ s.b.length + k
 | 0, x, h, _, s, n, hn, _ => by
  obtain ⟨m, rfl⟩ : ∃ m, n = m + 1 := ⟨n - 1, by omega⟩
  have : x = 0 := by simp at h; omega
  subst this
  exact ⟨(0, s), rfl, by simp⟩
 | k + 1, x, h, hb, s, n, hn, hs => by
  obtain ⟨m, rfl⟩ : ∃ m, n = m + 1 := ⟨n - 1, by omega⟩
  unfold iter
  simp only [un2]
  by_cases h0 : 0 < x
  ·rw [dT_ (show (0 : Int) < (x : Int) by omega), irem_of (by omega), iquo_of (by omega) (by omega) (by omega)]
   simp only [fT_]
   rw [cat_of (by rw [LIMv]; simp only [lC_, List.length_nil]; omega), bd_some, show (x : Int) / 10 = ((x / 10 : Nat) : Int) by omega]
   simp only
   obtain ⟨t, h1, h2⟩ := mark_dec k (x / 10) (by rw [Nat.pow_succ] at h; omega) (by omega) ⟨[mkB (iadd 48 ((x : Int) % 10))] ++ s.b⟩ m (by omega) (by simp; omega)
   refine ⟨t, h1, ?_⟩
   simp only [List.length_append, lC_, List.length_nil] at h2
   omega
  ·rw [dF_ (show ¬ (0 : Int) < (x : Int) by omega)]
   exact ⟨_, rfl, by simp only; omega⟩
theorem mark_text {n : Nat} (hn : 30 ≤ n) {k : Int} (h0 : 0 ≤ k) (hk : k ≤ 1152921504606846976) : ∃ t, M_laws_markText n k = some t ∧ t.b.length ≤ 30 := by
 unfold M_laws_markText
 by_cases h : k ≤ 0
 ·rw [dT_ h]; exact ⟨_, rfl, by simp⟩
 ·rw [dF_ h]
  simp only [bF_, fF_]
  obtain ⟨t, h1, h2⟩ := mark_dec 20 k.toNat (by omega) (by omega) ⟨[]⟩ n (by omega) (by simp)
  rw [show ((k.toNat : Nat) : Int) = k by omega] at h1
  rw [h1]
  simp only [List.length_nil] at h2
  simp only [bd_some, el_inl, un2]
  rw [cat_of (by rw [LIMv]; simp only [lC_, List.length_nil]; omega)]
  exact ⟨_, rfl, by simp only [List.length_append, lC_, List.length_nil]; omega⟩
theorem mark_set {α : Type} {l : List α} (f : Nat → α) {j : Nat} (hj : j < l.length) : ((List.range j).map f ++ l.drop j).set j (f j) = (List.range (j + 1)).map f ++ l.drop (j + 1) := by
 rw [List.set_append_right _ _ (by simp), show j - ((List.range j).map f).length = 0 by simp, dC_ hj, List.set_cons_zero, List.range_succ, List.map_append, List.append_assoc]
 rfl
theorem mark_loop {α ρ : Type} {l : List α} (f : Int → α) {k : Int} (h0 : 0 ≤ k) (hk : k + l.length ≤ 1152921504606846976) {n : Nat} (hn : l.length < n) {step : List α × Int × Int → Option (Out (List α × Int × Int) ρ)}
  (hs : ∀ (c : List α) (j : Nat) (x : Int), c.length = l.length → 0 ≤ x → x < 1152921504606846976 → j < c.length → step (c, x, (j : Int)) = some (.next (c.set j (f x), x + 1, ((j + 1 : Nat) : Int)))) (he : ∀ (c : List α) (j : Nat) (x : Int), ¬ j < c.length → step (c, x, (j : Int)) = some (.brk (c, x, (j : Int)))) :
  iter step n (l, k, 0) = some (.inl ((List.range l.length).map (fun (i : Nat) => f (k + i)), k + l.length, (l.length : Int))) := by
 have h := iter_brk (step := step) (m := n) (fun j => ((List.range j).map (fun (i : Nat) => f (k + i)) ++ l.drop j, k + j, (j : Int))) (j0 := l.length) (s := ((List.range l.length).map (fun (i : Nat) => f (k + i)), k + l.length, (l.length : Int))) hn (fun j hj => by
  rw [hs _ j _ (by simp; omega) (by omega) (by omega) (by simp; omega), mark_set (fun (i : Nat) => f (k + i)) hj]
  congr 4
  omega) (by
  rw [he _ _ _ (by simp)]
  simp)
 simpa using h
theorem mark_byte {n : Nat} {l : List UInt8} {k : Int} (h0 : 0 ≤ k) (hk : k + l.length ≤ 1152921504606846976) (hn : l.length < n) : M_laws_markByteS n l k = some (k + l.length, (List.range l.length).map (fun (i : Nat) => mkB (k + i))) := by
 unfold M_laws_markByteS
 rw [mark_loop mkB h0 hk hn (fun c j x hcl hx0 hx hj => by
  simp only [un3]
  rw [dT_ (show (j : Int) < (c.length : Int) by omega), iP_ rfl, upd_nat hj, bd_some, ia_ (by omega) (by omega), ia_ (x := (j : Int)) (by omega) (by omega)]; rfl) (fun c j x hj => by
  simp only [un3]
  rw [dF_ (show ¬ (j : Int) < (c.length : Int) by omega)]; rfl)]
 rfl
theorem mark_int {n : Nat} {l : List Int} {k : Int} (h0 : 0 ≤ k) (hk : k + l.length ≤ 1152921504606846976) (hn : l.length < n) : M_laws_markIntS n l k = some (k + l.length, (List.range l.length).map (fun (i : Nat) => k + i)) := by
 unfold M_laws_markIntS
 rw [mark_loop (fun x => x) h0 hk hn (fun c j x hcl hx0 hx hj => by
  simp only [un3]
  rw [dT_ (show (j : Int) < (c.length : Int) by omega), iP_ rfl, upd_nat hj, bd_some, ia_ (by omega) (by omega), ia_ (x := (j : Int)) (by omega) (by omega)]; rfl) (fun c j x hj => by
  simp only [un3]
  rw [dF_ (show ¬ (j : Int) < (c.length : Int) by omega)]; rfl)]
 rfl
def markS (n : Nat) (k : Int) : Str := (M_laws_markText n k).getD default
theorem mark_string {n : Nat} {l : List Str} {k : Int} (h0 : 0 ≤ k) (hk : k + l.length ≤ 1152921504606846976) (hn : l.length < n) (h30 : 30 ≤ n) : M_laws_markStringS n l k = some (k + l.length, (List.range l.length).map (fun (i : Nat) => markS n (k + i))) := by
 unfold M_laws_markStringS
 rw [mark_loop (markS n) h0 hk hn (fun c j x hcl hx0 hx hj => by
  simp only [un3]
  obtain ⟨t, ht, _⟩ := mark_text h30 hx0 (by omega : x ≤ 1152921504606846976)
  rw [dT_ (show (j : Int) < (c.length : Int) by omega), iP_ rfl, ht, bd_some, upd_nat hj, bd_some, ia_ (by omega) (by omega), ia_ (x := (j : Int)) (by omega) (by omega), show markS n x = t by unfold markS; rw [ht]; rfl]; rfl) (fun c j x hj => by
  simp only [un3]
  rw [dF_ (show ¬ (j : Int) < (c.length : Int) by omega)]; rfl)]
 rfl
theorem markS_len {n : Nat} (h30 : 30 ≤ n) {k : Int} (h0 : 0 ≤ k) (hk : k ≤ 1152921504606846976) : (markS n k).b.length ≤ MX := by
 have := MXv
 obtain ⟨t, ht, hl⟩ := mark_text h30 h0 hk
 unfold markS; rw [ht]; simp only [Option.getD_some]; omega
theorem idx_set {α : Type} {l : List α} {j : Nat} {x : α} (h : j < l.length) : idx (l.set j x) (j : Int) = some x := by
 rw [ix_ (by simpa using h)]; simp
theorem upd_set {α : Type} {l : List α} {j : Nat} {x y : α} (h : j < l.length) : upd (l.set j x) (j : Int) y = some (l.set j y) := by
 rw [upd_nat (by simpa using h)]; simp
theorem mark_rules {n : Nat} {l : List Rule} (hl : l.length ≤ MX) (hs : ∀ r ∈ l, SmR r) (hn : MX + 30 ≤ n) {k : Int} (h0 : 0 ≤ k) (hk : k ≤ 1) : ∃ k' l', M_laws_markRuleS n l k = some (k', l') ∧ 0 ≤ k' ∧ k' ≤ 281474976710656 := by
 have hMX := MXv
 unfold M_laws_markRuleS
 have hstep : ∀ s : (List Rule) × Int × Int, (∃ j : Nat, s.2.2 = (j : Int) ∧ s.1.length = l.length ∧ j ≤ l.length ∧ (∀ r ∈ s.1, SmR r) ∧ 0 ≤ s.2.1 ∧ s.2.1 ≤ 1 + (j : Int) * 8388608) →
   (∃ s', ((un3 fun x1371 x1379 x1381 => if (decide (x1381 < (x1371.length : Int))) = true then bd (M_laws_markText n x1379) fun r1732 => bd (idx x1371 x1381) fun x1738 => bd (upd x1371 x1381 (⟨r1732, x1738.kind, x1738.size, x1738.little, x1738.bytes, x1738.names, x1738.tags, x1738.kids⟩ : Rule)) fun x1744 => bd (idx x1744 x1381) fun x1753 => bd (upd x1744 x1381 (⟨x1753.name, iadd x1379 1, x1753.size, x1753.little, x1753.bytes, x1753.names, x1753.tags, x1753.kids⟩ : Rule)) fun x1758 => bd (idx x1758 x1381) fun x1767 => bd (upd x1758 x1381 (⟨x1767.name, x1767.kind, iadd (iadd x1379 1) 1, x1767.little, x1767.bytes, x1767.names, x1767.tags, x1767.kids⟩ : Rule)) fun x1772 => bd (idx x1772 x1381) fun x1781 => bd (upd x1772 x1381 (⟨x1781.name, x1781.kind, x1781.size, (irem (iadd (iadd (iadd x1379 1) 1) 1) 3) == 0, x1781.bytes, x1781.names, x1781.tags, x1781.kids⟩ : Rule)) fun x1786 => bd (idx x1786 x1381) fun x1795 => bd2 (M_laws_markByteS n x1795.bytes (iadd (iadd (iadd (iadd x1379 1) 1) 1) 1)) fun r1847 r1850 => bd (idx (x1786.set (x1381).toNat (⟨x1795.name, x1795.kind, x1795.size, x1795.little, r1850, x1795.names, x1795.tags, x1795.kids⟩ : Rule)) x1381) fun x1870 => bd2 (M_laws_markStringS n x1870.names r1847) fun r1910 r1913 => bd (idx ((x1786.set (x1381).toNat (⟨x1795.name, x1795.kind, x1795.size, x1795.little, r1850, x1795.names, x1795.tags, x1795.kids⟩ : Rule)).set (x1381).toNat (⟨x1870.name, x1870.kind, x1870.size, x1870.little, x1870.bytes, r1913, x1870.tags, x1870.kids⟩ : Rule)) x1381) fun x1933 => bd2 (M_laws_markIntS n x1933.tags r1910) fun r1973 r1976 => bd (idx (((x1786.set (x1381).toNat (⟨x1795.name, x1795.kind, x1795.size, x1795.little, r1850, x1795.names, x1795.tags, x1795.kids⟩ : Rule)).set (x1381).toNat (⟨x1870.name, x1870.kind, x1870.size, x1870.little, x1870.bytes, r1913, x1870.tags, x1870.kids⟩ : Rule)).set (x1381).toNat (⟨x1933.name, x1933.kind, x1933.size, x1933.little, x1933.bytes, x1933.names, r1976, x1933.kids⟩ : Rule)) x1381) fun x1996 => bd2 (M_laws_markIntS n x1996.kids r1973) fun r2036 r2039 => some (.next (((((x1786.set (x1381).toNat (⟨x1795.name, x1795.kind, x1795.size, x1795.little, r1850, x1795.names, x1795.tags, x1795.kids⟩ : Rule)).set (x1381).toNat (⟨x1870.name, x1870.kind, x1870.size, x1870.little, x1870.bytes, r1913, x1870.tags, x1870.kids⟩ : Rule)).set (x1381).toNat (⟨x1933.name, x1933.kind, x1933.size, x1933.little, x1933.bytes, x1933.names, r1976, x1933.kids⟩ : Rule)).set (x1381).toNat (⟨x1996.name, x1996.kind, x1996.size, x1996.little, x1996.bytes, x1996.names, x1996.tags, r2039⟩ : Rule)), r2036, iadd x1381 1)) else some (.brk (x1371, x1379, x1381))) : (List Rule) × Int × Int → Option (Out ((List Rule) × Int × Int) (Int × (List Rule)))) s = some (.next s') ∧ (∃ j : Nat, s'.2.2 = (j : Int) ∧ s'.1.length = l.length ∧ j ≤ l.length ∧ (∀ r ∈ s'.1, SmR r) ∧ 0 ≤ s'.2.1 ∧ s'.2.1 ≤ 1 + (j : Int) * 8388608) ∧ l.length - s'.2.2.toNat < l.length - s.2.2.toNat) ∨ (∃ s', ((un3 fun x1371 x1379 x1381 => if (decide (x1381 < (x1371.length : Int))) = true then bd (M_laws_markText n x1379) fun r1732 => bd (idx x1371 x1381) fun x1738 => bd (upd x1371 x1381 (⟨r1732, x1738.kind, x1738.size, x1738.little, x1738.bytes, x1738.names, x1738.tags, x1738.kids⟩ : Rule)) fun x1744 => bd (idx x1744 x1381) fun x1753 => bd (upd x1744 x1381 (⟨x1753.name, iadd x1379 1, x1753.size, x1753.little, x1753.bytes, x1753.names, x1753.tags, x1753.kids⟩ : Rule)) fun x1758 => bd (idx x1758 x1381) fun x1767 => bd (upd x1758 x1381 (⟨x1767.name, x1767.kind, iadd (iadd x1379 1) 1, x1767.little, x1767.bytes, x1767.names, x1767.tags, x1767.kids⟩ : Rule)) fun x1772 => bd (idx x1772 x1381) fun x1781 => bd (upd x1772 x1381 (⟨x1781.name, x1781.kind, x1781.size, (irem (iadd (iadd (iadd x1379 1) 1) 1) 3) == 0, x1781.bytes, x1781.names, x1781.tags, x1781.kids⟩ : Rule)) fun x1786 => bd (idx x1786 x1381) fun x1795 => bd2 (M_laws_markByteS n x1795.bytes (iadd (iadd (iadd (iadd x1379 1) 1) 1) 1)) fun r1847 r1850 => bd (idx (x1786.set (x1381).toNat (⟨x1795.name, x1795.kind, x1795.size, x1795.little, r1850, x1795.names, x1795.tags, x1795.kids⟩ : Rule)) x1381) fun x1870 => bd2 (M_laws_markStringS n x1870.names r1847) fun r1910 r1913 => bd (idx ((x1786.set (x1381).toNat (⟨x1795.name, x1795.kind, x1795.size, x1795.little, r1850, x1795.names, x1795.tags, x1795.kids⟩ : Rule)).set (x1381).toNat (⟨x1870.name, x1870.kind, x1870.size, x1870.little, x1870.bytes, r1913, x1870.tags, x1870.kids⟩ : Rule)) x1381) fun x1933 => bd2 (M_laws_markIntS n x1933.tags r1910) fun r1973 r1976 => bd (idx (((x1786.set (x1381).toNat (⟨x1795.name, x1795.kind, x1795.size, x1795.little, r1850, x1795.names, x1795.tags, x1795.kids⟩ : Rule)).set (x1381).toNat (⟨x1870.name, x1870.kind, x1870.size, x1870.little, x1870.bytes, r1913, x1870.tags, x1870.kids⟩ : Rule)).set (x1381).toNat (⟨x1933.name, x1933.kind, x1933.size, x1933.little, x1933.bytes, x1933.names, r1976, x1933.kids⟩ : Rule)) x1381) fun x1996 => bd2 (M_laws_markIntS n x1996.kids r1973) fun r2036 r2039 => some (.next (((((x1786.set (x1381).toNat (⟨x1795.name, x1795.kind, x1795.size, x1795.little, r1850, x1795.names, x1795.tags, x1795.kids⟩ : Rule)).set (x1381).toNat (⟨x1870.name, x1870.kind, x1870.size, x1870.little, x1870.bytes, r1913, x1870.tags, x1870.kids⟩ : Rule)).set (x1381).toNat (⟨x1933.name, x1933.kind, x1933.size, x1933.little, x1933.bytes, x1933.names, r1976, x1933.kids⟩ : Rule)).set (x1381).toNat (⟨x1996.name, x1996.kind, x1996.size, x1996.little, x1996.bytes, x1996.names, x1996.tags, r2039⟩ : Rule)), r2036, iadd x1381 1)) else some (.brk (x1371, x1379, x1381))) : (List Rule) × Int × Int → Option (Out ((List Rule) × Int × Int) (Int × (List Rule)))) s = some (.brk s') ∧ (0 ≤ s'.2.1 ∧ s'.2.1 ≤ 281474976710656)) := by
  intro s hi
  obtain ⟨a, x, i⟩ := s
  obtain ⟨j, rfl, hal, hj, hsm, hx0, hx1⟩ := hi
  simp only at hal hsm hx0 hx1
  simp only [un3]
  by_cases hlt : j < l.length
  ·left
   have hja : j < a.length := by omega
   have hr := hsm _ (gE_ hja)
   have hb := hr.bytes; have hnm := hr.names; have ht := hr.tags; have hkd := hr.kids
   have hjm : (j : Int) * 8388608 ≤ 1048576 * 8388608 := by omega
   rw [dT_ (show (j : Int) < (a.length : Int) by omega), iP_ rfl]
   obtain ⟨t, htx, htl⟩ := mark_text (n := n) (by omega) hx0 (by omega : x ≤ 1152921504606846976)
   rw [htx, bd_some, ix_ hja, bd_some, upd_nat hja, bd_some]
   generalize a[j] = r at *
   rw [idx_set hja, bd_some, upd_set hja, bd_some, idx_set hja, bd_some, upd_set hja, bd_some, idx_set hja, bd_some, upd_set hja, bd_some, idx_set hja, bd_some]
   simp only [tN_, List.set_set]
   rw [ia_ (x := x) (by omega) (by omega), ia_ (x := x + 1) (by omega) (by omega), ia_ (x := x + 1 + 1) (by omega) (by omega), ia_ (x := x + 1 + 1 + 1) (by omega) (by omega)]
   rw [mark_byte (by omega) (by omega) (by omega)]
   simp only [bd2_some]
   rw [idx_set hja, bd_some]
   simp only
   rw [mark_string (by omega) (by omega) (by omega) (by omega)]
   simp only [bd2_some]
   rw [idx_set hja, bd_some]
   simp only
   rw [mark_int (by omega) (by omega) (by omega)]
   simp only [bd2_some]
   rw [idx_set hja, bd_some]
   simp only
   rw [mark_int (by omega) (by omega) (by omega)]
   simp only [bd2_some]
   rw [ia_ (x := (j : Int)) (by omega) (by omega)]
   refine ⟨_, rfl, ⟨j + 1, by simp only; omega, by simpa using hal, by omega, ?_, by simp only; omega, by simp only; omega⟩, by simp only; omega⟩
   intro q hq
   rcases List.mem_or_eq_of_mem_set hq with h | rfl
   ·exact hsm q h
   ·refine ⟨by simp only; omega, by simpa using hb, by simpa using hnm, by simpa using ht, by simpa using hkd, ?_⟩
    intro u hu
    simp only [List.mem_map, List.mem_range] at hu
    obtain ⟨i, hi, rfl⟩ := hu
    exact markS_len (by omega) (by omega) (by omega)
  ·right
   rw [dF_ (show ¬ (j : Int) < (a.length : Int) by omega)]
   exact ⟨_, rfl, hx0, by simp only; omega⟩
 obtain ⟨s, h1, h2⟩ := iter_inv (σ := (List Rule) × Int × Int) (ρ := Int × (List Rule)) _ (fun s : (List Rule) × Int × Int => l.length - s.2.2.toNat) _ hstep n (l, k, 0) ⟨0, rfl, rfl, Nat.zero_le _, hs, h0, by simpa using hk⟩ (by simp; omega)
 rw [h1]; exact ⟨_, _, rfl, h2⟩
theorem mark_desc {n : Nat} {d : Desc} (hd : SmD d) (hn : MX + 30 ≤ n) : ∃ k' l', M_laws_markDescription n d 1 = some (k', l') ∧ 0 ≤ k' ∧ k' ≤ 281474976710656 := by
 obtain ⟨k', l', h, hk⟩ := mark_rules hd.rules hd.each hn (k := 1) (by omega) (by omega)
 unfold M_laws_markDescription
 rw [h]
 exact ⟨k', l', rfl, hk⟩
end Go.Vw
