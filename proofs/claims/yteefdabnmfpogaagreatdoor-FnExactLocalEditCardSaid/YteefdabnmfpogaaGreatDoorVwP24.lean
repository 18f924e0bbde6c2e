import Derived.Test.YteefdabnmfpogaaGreatDoorVwP22
namespace Go.Vw
open Go.RowKit Dat
variable {d : Desc} {b : List UInt8}
def spliceP (b : List UInt8) (at_ rm : Int) (ins : List UInt8) : List UInt8 × Bool :=
 if 0 ≤ at_ ∧ 0 ≤ rm ∧ at_ + rm ≤ b.length then (b.take at_.toNat ++ ins ++ b.drop (at_ + rm).toNat, true) else (b, false)
theorem slc_all {l : List UInt8} {a c : Int} (h1 : 0 ≤ a) (h2 : a ≤ c) (h3 : c ≤ l.length) : slc l a c = some ((l.take c.toNat).drop a.toNat) := by
 unfold slc; rw [if_pos ⟨h1, h2, h3⟩]
theorem app_ok {l m : List UInt8} (h : l.length + m.length ≤ LIM) : app l m = some (l ++ m) := by
 unfold app; rw [if_pos h]
theorem splice_body {at_ rm : Int} {ins : List UInt8} (hb : b.length ≤ MX) (hi : ins.length ≤ MX) (h : 0 ≤ at_ ∧ 0 ≤ rm ∧ at_ + rm ≤ b.length) :
  iadd at_ rm = at_ + rm ∧ slc b 0 at_ = some (b.take at_.toNat) ∧ slc b (at_ + rm) (b.length : Int) = some (b.drop (at_ + rm).toNat) ∧ app ([] : List UInt8) (b.take at_.toNat) = some (b.take at_.toNat) ∧ app (b.take at_.toNat) ins = some (b.take at_.toNat ++ ins) ∧ app (b.take at_.toNat ++ ins) (b.drop (at_ + rm).toNat) = some (b.take at_.toNat ++ ins ++ b.drop (at_ + rm).toNat) := by
 have := MXv; have := LIMv
 refine ⟨iadd_of (by omega) (by omega), ?_, ?_, ?_, ?_, ?_⟩
 ·rw [slc_all (by omega) (by omega) (by omega)]; simp
 ·rw [slc_all (by omega) (by omega) (by omega)]; simp
 ·rw [app_ok (by simp; omega)]; simp
 ·rw [app_ok (by simp; omega)]
 ·rw [app_ok (by simp; omega)]
theorem spec_Splice {at_ rm : Int} {ins : List UInt8} (hb : b.length ≤ MX) (hi : ins.length ≤ MX) : M_spec_SpliceBytes b at_ rm ins = some (spliceP b at_ rm ins) := by
 have := MXv; have := LIMv
 unfold M_spec_SpliceBytes spliceP
 have hbad : app ([] : List UInt8) b = some b := by rw [app_ok (by simp; omega)]; simp
 by_cases h1 : at_ < 0
 ·rw [decide_eq_true h1, if_neg (show ¬ (0 ≤ at_ ∧ 0 ≤ rm ∧ at_ + rm ≤ b.length) by omega), hbad]; rfl
 by_cases h2 : rm < 0
 ·rw [decide_eq_false h1, decide_eq_true h2, if_neg (show ¬ (0 ≤ at_ ∧ 0 ≤ rm ∧ at_ + rm ≤ b.length) by omega), hbad]; rfl
 by_cases h3 : (b.length : Int) < rm
 ·rw [decide_eq_false h1, decide_eq_false h2, decide_eq_true h3, if_neg (show ¬ (0 ≤ at_ ∧ 0 ≤ rm ∧ at_ + rm ≤ b.length) by omega), hbad]; rfl
 rw [decide_eq_false h1, decide_eq_false h2, decide_eq_false h3, isub_of (by omega) (by omega)]
 by_cases h4 : (b.length : Int) - rm < at_
 ·rw [decide_eq_true h4, if_neg (show ¬ (0 ≤ at_ ∧ 0 ≤ rm ∧ at_ + rm ≤ b.length) by omega), hbad]; rfl
 ·have h := show 0 ≤ at_ ∧ 0 ≤ rm ∧ at_ + rm ≤ b.length by omega
  obtain ⟨e1, e2, e3, e4, e5, e6⟩ := splice_body hb hi h
  rw [decide_eq_false h4, if_pos h, e1, e2, e3]
  simp only [Bool.false_eq_true, if_false, bd_some, e4, e5, e6]
theorem impl_Splice {at_ rm : Int} {ins : List UInt8} (hb : b.length ≤ MX) (hi : ins.length ≤ MX) : M_impl_SpliceBytes b at_ rm ins = some (spliceP b at_ rm ins) := by
 have := MXv; have := LIMv
 unfold M_impl_SpliceBytes spliceP
 have hbad : app ([] : List UInt8) b = some b := by rw [app_ok (by simp; omega)]; simp
 by_cases h1 : at_ < 0
 ·rw [decide_eq_true h1, if_neg (show ¬ (0 ≤ at_ ∧ 0 ≤ rm ∧ at_ + rm ≤ b.length) by omega), hbad]; rfl
 by_cases h2 : rm < 0
 ·rw [decide_eq_false h1, decide_eq_true h2, if_neg (show ¬ (0 ≤ at_ ∧ 0 ≤ rm ∧ at_ + rm ≤ b.length) by omega), hbad]; rfl
 by_cases h3 : (b.length : Int) < at_
 ·rw [decide_eq_false h1, decide_eq_false h2, decide_eq_true h3, if_neg (show ¬ (0 ≤ at_ ∧ 0 ≤ rm ∧ at_ + rm ≤ b.length) by omega), hbad]; rfl
 rw [decide_eq_false h1, decide_eq_false h2, decide_eq_false h3, isub_of (by omega) (by omega)]
 by_cases h4 : (b.length : Int) - at_ < rm
 ·rw [decide_eq_true h4, if_neg (show ¬ (0 ≤ at_ ∧ 0 ≤ rm ∧ at_ + rm ≤ b.length) by omega), hbad]; rfl
 ·have h := show 0 ≤ at_ ∧ 0 ≤ rm ∧ at_ + rm ≤ b.length by omega
  obtain ⟨e1, e2, e3, e4, e5, e6⟩ := splice_body hb hi h
  rw [decide_eq_false h4, if_pos h, e1, e2, e3]
  simp only [Bool.false_eq_true, if_false, bd_some, e4, e5, e6]
theorem app_nil {α : Type} {l : List α} (h : l.length ≤ MX) : app ([] : List α) l = some l := by
 have := MXv; have := LIMv
 rw [app_of (by simp; omega)]; simp
theorem piece_len' (b : List UInt8) (p n : Nat) : (piece b p (p + n)).length ≤ n := by unfold piece; simp; omega
theorem bytesP_le (p : Nat) (n : Int) : (bytesP b p n).1.bytes.length + p ≤ (bytesP b p n).2.1 := by
 unfold bytesP
 split
 ·show 0 + p ≤ p; omega
 ·have := piece_len' b p n.toNat
  show (piece b p (p + n.toNat)).length + p ≤ p + n.toNat
  omega
structure Agree (b b' : List UInt8) (e : Nat) : Prop where
 l1 : e ≤ b.length
 l2 : e ≤ b'.length
 eq : b.take e = b'.take e
section
variable {b' : List UInt8} {e : Nat}
theorem Agree.get (h : Agree b b' e) {p : Nat} (hp : p < e) : b'[p]? = b[p]? := by
 have := congrArg (fun l => l[p]?) h.eq
 simp only [List.getElem?_take, hp, if_true] at this
 exact this.symm
theorem Agree.piece (h : Agree b b' e) {p q : Nat} (hq : q ≤ e) : piece b' p q = piece b p q := by
 unfold Vw.piece
 have h1 : b'.take q = (b'.take e).take q := by rw [List.take_take, Nat.min_eq_left hq]
 have h2 : b.take q = (b.take e).take q := by rw [List.take_take, Nat.min_eq_left hq]
 rw [h1, h2, h.eq]
theorem rdInt_pre (h : Agree b b' e) {r : Rule} (hr : isInt r) {p : Nat} {n : Int} (hn : rdInt b r p = some n) (hp : p + r.size.toNat ≤ e) : rdInt b' r p = some n := by
 have h1 := h.l1; have h2 := h.l2
 obtain ⟨_, hs, _⟩ := hr
 unfold rdInt at *
 rw [if_neg (by omega)] at hn ⊢
 rw [h.piece hp]; exact hn
theorem find_congr {p q : Nat → Bool} : ∀ {l : List Nat}, (∀ k ∈ l, p k = q k) → l.find? p = l.find? q
 | [], _ => rfl
 | a :: l, h => by
  rw [List.find?_cons, List.find?_cons, h a List.mem_cons_self, find_congr (fun k hk => h k (List.mem_cons_of_mem _ hk))]
theorem constP_pre (h : Agree b b' e) {bs : List UInt8} {p : Nat} (hc : (constP b bs p).2 = 0) (hp : (constP b bs p).1 ≤ e) : constP b' bs p = constP b bs p := by
 have hok := constP_ok hc
 have hf : (List.range bs.length).find? (cBad b' bs p) = (List.range bs.length).find? (cBad b bs p) := find_congr fun k hk => by
  unfold cBad; rw [h.get (by have := List.mem_range.1 hk; omega)]
 unfold constP at *
 rw [hf]
 cases hs : (List.range bs.length).find? (cBad b bs p) with
 | none => rfl
 | some k =>
  rw [hs] at hc
  simp only at hc
  split at hc <;> cases hc
theorem bytesP_pre (h : Agree b b' e) {p : Nat} {n : Int} (h0 : 0 ≤ n) (hc : (bytesP b p n).2.2 = 0) (hp : (bytesP b p n).2.1 ≤ e) : bytesP b' p n = bytesP b p n := by
 have h1 := h.l1; have h2 := h.l2
 unfold bytesP at *
 split at hc
 ·cases hc
 ·rename_i hn
  rw [if_neg hn] at hp ⊢
  simp only at hp
  rw [if_neg (by omega), h.piece hp]
theorem termL_pre (h : Agree b b' e) {t : UInt8} : ∀ (f acc p) (c : List UInt8) (q f' : Nat), termL b t f acc p = some (c, q) → q ≤ e → q ≤ p + f' → termL b' t f' acc p = some (c, q)
 | 0, _, _, _, _, _, hs, _, _ => by cases hs
 | f + 1, acc, p, c, q, f', hs, hq, hf => by
  have hle := termL_le _ _ _ _ _ hs
  obtain ⟨f', rfl⟩ : ∃ g, f' = g + 1 := ⟨f' - 1, by omega⟩
  unfold termL at *
  rw [h.get (show p < e by omega)]
  cases hb : b[p]? with
  | none => rw [hb] at hs; cases hs
  | some x =>
   rw [hb] at hs
   simp only at hs ⊢
   by_cases h1 : x = t
   ·rw [if_pos h1] at hs ⊢; exact hs
   ·rw [if_neg h1] at hs ⊢
    by_cases h2 : x = 92
    ·rw [if_pos h2] at hs ⊢
     cases hb2 : b[p + 1]? with
     | none => rw [hb2] at hs; cases hs
     | some y =>
      rw [hb2] at hs
      simp only at hs
      have hle2 := termL_le _ _ _ _ _ hs
      rw [h.get (show p + 1 < e by omega), hb2]
      exact termL_pre h f _ _ c q f' hs hq (by omega)
    ·rw [if_neg h2] at hs ⊢
     exact termL_pre h f _ _ c q f' hs hq (by omega)
theorem headC_pre (h : Agree b b' e) {rs : List Rule} {r : Rule} (hk : kindOk rs r = true) {p : Nat} {x : Int × List Int × Nat} (hh : headC rs b r p = .inr x) (hx : x.2.2 ≤ e) : headC rs b' r p = .inr x := by
 unfold headC at *
 by_cases h5 : r.kind = 5
 ·have hl := lim_int (k_array hk h5).1
  rw [h5] at hh ⊢
  simp only [beq_self_eq_true, if_true] at hh ⊢
  cases hi : rdInt b (ruleAt rs (kid0 r)) p with
  | none => rw [hi] at hh; cases hh
  | some n =>
   rw [hi] at hh
   simp only at hh
   have hst : p + (ruleAt rs (kid0 r)).size.toNat ≤ e := by
    split at hh
    ·cases hh
    ·cases hh; exact hx
   rw [rdInt_pre h hl.2 hi hst]; exact hh
 rw [show (r.kind == 5) = false by simpa using h5] at hh ⊢
 simp only [Bool.false_eq_true, if_false] at hh ⊢
 by_cases h6 : r.kind = 6
 ·rw [h6] at hh ⊢; exact hh
 rw [show (r.kind == 6) = false by simpa using h6] at hh ⊢
 simp only [Bool.false_eq_true, if_false] at hh ⊢
 by_cases h7 : r.kind = 7
 ·have hl := lim_int (k_choice hk h7).1
  rw [h7] at hh ⊢
  simp only [beq_self_eq_true, if_true] at hh ⊢
  cases hi : rdInt b (ruleAt rs (kid0 r)) p with
  | none => rw [hi] at hh; cases hh
  | some n =>
   rw [hi] at hh
   simp only at hh
   have hst : p + (ruleAt rs (kid0 r)).size.toNat ≤ e := by
    cases ht : tagIx r.tags n with
    | none => rw [ht] at hh; cases hh
    | some j => rw [ht] at hh; cases hh; exact hx
   rw [rdInt_pre h hl.2 hi hst]; exact hh
 rw [show (r.kind == 7) = false by simpa using h7] at hh ⊢
 simp only [Bool.false_eq_true, if_false] at hh ⊢
 by_cases h8 : r.kind = 8
 ·rw [h8] at hh ⊢
  simp only [beq_self_eq_true, if_true] at hh ⊢
  cases hc : b[p]? with
  | none => rw [hc] at hh; cases hh
  | some c =>
   rw [hc] at hh
   simp only at hh
   have hst : p + 1 ≤ e := by
    split at hh
    ·cases hh
    ·cases hh; exact hx
   rw [h.get (show p < e by omega), hc]; exact hh
 rw [show (r.kind == 8) = false by simpa using h8] at hh ⊢
 exact hh
theorem items_pre {rd rd' : Int → Nat → RR} {L : Nat} : ∀ (ks : List Int) (p : Nat), p ≤ L → (∀ k ∈ ks, ∀ p, p ≤ L → p ≤ (rd k p).2.1 ∧ (rd k p).2.1 ≤ L) → (itemsP rd ks p).2.2 = 0 → (∀ k ∈ ks, ∀ p, p ≤ L → (rd k p).2.2 = 0 → (rd k p).2.1 ≤ e → rd' k p = rd k p) → (itemsP rd ks p).2.1 ≤ e → itemsP rd' ks p = itemsP rd ks p
 | [], _, _, _, _, _, _ => rfl
 | k :: ks, p, hp, hle, h0, hr, he => by
  have hk := hle k List.mem_cons_self p hp
  have hrest := itemsP_le ks (rd k p).2.1 hk.2 (fun k hk => hle k (List.mem_cons_of_mem _ hk))
  unfold itemsP at h0 he ⊢
  by_cases h1 : (rd k p).2.2 = 0
  ·rw [if_pos h1] at h0 he ⊢
   by_cases h2 : (itemsP rd ks (rd k p).2.1).2.2 = 0
   ·rw [if_pos h2] at h0 he ⊢
    simp only at he
    have e1 := hr k List.mem_cons_self p hp h1 (by omega)
    rw [e1, if_pos h1, items_pre ks _ hk.2 (fun k hk => hle k (List.mem_cons_of_mem _ hk)) h2 (fun k hk => hr k (List.mem_cons_of_mem _ hk)) he, if_pos h2]
   ·rw [if_neg h2] at h0; exact absurd h0 h2
  ·rw [if_neg h1] at h0; exact absurd h0 h1
theorem fin_end {r : Rule} {num : Int} {p : Nat} {x : List Val × Nat × Int} (h0 : (finC b r num p x).2.2 = 0) : x.2.2 = 0 ∧ x.2.1 ≤ (finC b r num p x).2.1 := by
 unfold finC at *
 by_cases hx : x.2.2 = 0
 ·refine ⟨hx, ?_⟩
  rw [if_pos hx] at h0 ⊢
  split
  ·split
   ·exact Nat.le_refl _
   ·split
    ·exact Nat.le_succ _
    ·exact Nat.le_refl _
  ·exact Nat.le_refl _
 ·rw [if_neg hx] at h0; exact absurd h0 hx
theorem rdW_pre (hv : valid d = true) (h : Agree b b' e) : ∀ (i : Nat), i < d.rules.length → ∀ p, p ≤ b.length → (rdW d.rules b i p).2.2 = 0 → (rdW d.rules b i p).2.1 ≤ e → rdW d.rules b' i p = rdW d.rules b i p := by
 intro i
 induction i using Nat.strongRecOn with
 | _ i ih =>
  intro hi p hp h0 he
  have hle := (rdW_le hv i hi p hp)
  have hl2 := h.l2
  have hr := valid_rule hv hi
  have hal := k_all hr.kind
  rw [rdW_eq hv hi hp] at h0 he hle ⊢
  rw [rdW_eq hv hi (show p ≤ b'.length by omega)]
  generalize d.rules[i] = r at *
  unfold rdB at *
  by_cases h1 : r.kind = 1
  ·have hin := k_int hr.kind h1
   rw [h1] at h0 he ⊢
   simp only [beq_self_eq_true, if_true] at h0 he ⊢
   cases hq : rdInt b r p with
   | none => rw [hq] at h0; cases h0
   | some n => rw [hq] at he; rw [rdInt_pre h hin hq he]
  rw [show (r.kind == 1) = false by simpa using h1] at h0 he hle ⊢
  simp only [Bool.false_eq_true, if_false] at h0 he hle ⊢
  by_cases h2 : r.kind = 2
  ·rw [h2] at h0 he ⊢
   simp only [beq_self_eq_true, if_true] at h0 he ⊢
   rw [constP_pre h h0 he]
  rw [show (r.kind == 2) = false by simpa using h2] at h0 he hle ⊢
  simp only [Bool.false_eq_true, if_false] at h0 he hle ⊢
  by_cases h3 : r.kind = 3
  ·have hs := k_fixed hr.kind h3
   rw [h3] at h0 he ⊢
   simp only [beq_self_eq_true, if_true] at h0 he ⊢
   exact bytesP_pre h (by omega) h0 he
  rw [show (r.kind == 3) = false by simpa using h3] at h0 he hle ⊢
  simp only [Bool.false_eq_true, if_false] at h0 he hle ⊢
  by_cases h4 : r.kind = 4
  ·have hl := lim_int (k_sized hr.kind h4).1
   rw [h4] at h0 he ⊢
   simp only [beq_self_eq_true, if_true] at h0 he ⊢
   cases hq : rdInt b (ruleAt d.rules (kid0 r)) p with
   | none => rw [hq] at h0; cases h0
   | some n =>
    rw [hq] at h0 he
    simp only at h0 he
    have hb := bytesP_le (b := b) (p + (ruleAt d.rules (kid0 r)).size.toNat) n
    rw [rdInt_pre h hl.2 hq (by omega)]
    exact bytesP_pre h (rdInt_range hl.2 hq).1 h0 he
  rw [show (r.kind == 4) = false by simpa using h4] at h0 he hle ⊢
  simp only [Bool.false_eq_true, if_false] at h0 he hle ⊢
  by_cases h10 : r.kind = 10
  ·rw [h10] at h0 he ⊢
   simp only [beq_self_eq_true, if_true] at h0 he ⊢
   cases hq : termP b p (r.bytes.getD 0 0) with
   | none => rw [hq] at h0; cases h0
   | some x =>
    obtain ⟨c, q⟩ := x
    rw [hq] at he
    simp only at he
    have : termP b' p (r.bytes.getD 0 0) = some (c, q) := termL_pre h _ _ _ c q _ hq he (by omega)
    rw [this]
  rw [show (r.kind == 10) = false by simpa using h10] at h0 he hle ⊢
  simp only [Bool.false_eq_true, if_false] at h0 he hle ⊢
  cases hh : headC d.rules b r p with
  | inl c =>
   exfalso
   rw [hh] at h0
   simp only at h0
   subst h0
   unfold headC at hh
   split at hh
   ·split at hh
    ·cases hh
    ·split at hh <;> cases hh
   split at hh
   ·cases hh
   split at hh
   ·split at hh
    ·cases hh
    ·split at hh <;> cases hh
   split at hh
   ·split at hh
    ·cases hh
    ·split at hh <;> cases hh
   ·cases hh
  | inr y =>
   obtain ⟨num, ks, st⟩ := y
   rw [hh] at h0 he
   simp only at h0 he
   have hkk : 5 ≤ r.kind ∧ r.kind ≤ 9 := by omega
   have hks := headC_kids hr.kind hkk hp hh
   have hpos : ∀ k ∈ ks, 0 ≤ k ∧ k < (i : Int) := fun k hk => hr.kids k (hks.1 k hk)
   have hmono : ∀ k ∈ ks, ∀ p, p ≤ b.length → p ≤ (rdW d.rules b k.toNat p).2.1 ∧ (rdW d.rules b k.toNat p).2.1 ≤ b.length := fun k hk p hp => rdW_le hv k.toNat (by have := hpos k hk; omega) p hp
   have hil := itemsP_le (rd := fun k p => rdW d.rules b k.toNat p) ks st hks.2.2.1 hmono
   have hf := fin_end h0
   have hst : st ≤ e := by omega
   rw [headC_pre h hr.kind hh hst]
   simp only
   have hit := items_pre (e := e) (rd := fun k p => rdW d.rules b k.toNat p) (rd' := fun k p => rdW d.rules b' k.toNat p) ks st hks.2.2.1 hmono hf.1 (fun k hk p hp h1 h2 => ih k.toNat (by have := hpos k hk; omega) (by have := hpos k hk; omega) p hp h1 h2) (by omega)
   rw [hit]
   generalize itemsP (fun k p => rdW d.rules b k.toNat p) ks st = x at *
   unfold finC at *
   rw [if_pos hf.1] at h0 he ⊢
   rw [if_pos hf.1]
   by_cases h9 : r.kind = 9
   ·rw [h9] at h0 he ⊢
    simp only [beq_self_eq_true, if_true] at h0 he ⊢
    have hx : x.2.1 < e := by
     cases hc : b[x.2.1]? with
     | none => rw [hc] at h0; cases h0
     | some c =>
      rw [hc] at h0 he
      simp only at h0 he
      split at h0
      ·rename_i hs; rw [if_pos hs] at he; exact he
      ·cases h0
    rw [h.get hx, h.piece (Nat.le_of_lt hx)]
   ·rw [show (r.kind == 9) = false by simpa using h9]
    rfl
end
end Go.Vw
