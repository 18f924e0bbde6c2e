import Derived.Test.YtpbfnngknnpgoaaGreatDoorVwP13
namespace Go.Vw
open Go.RowKit Dat
variable {d : Desc} {b : List UInt8}
def spliceP (b : List UInt8) (at_ rm : Int) (ins : List UInt8) : List UInt8 × Bool :=
 if 0 ≤ at_ ∧ 0 ≤ rm ∧ at_ + rm ≤ b.length then (b.take at_.toNat ++ ins ++ b.drop (at_ + rm).toNat, true) else (b, false)
theorem slc_all {l : List UInt8} {a c : Int} (h1 : 0 ≤ a) (h2 : a ≤ c) (h3 : c ≤ l.length) : slc l a c = some ((l.take c.toNat).drop a.toNat) := by
 unfold slc; rw [if_pos ⟨h1, h2, h3⟩]
theorem app_ok {l m : List UInt8} (h : l.length + m.length ≤ LIM) : app l m = some (l ++ m) := by
 unfold app; rw [if_pos h]
theorem spliceP_len (b : List UInt8) (at_ rm : Int) (ins : List UInt8) : (spliceP b at_ rm ins).1.length ≤ b.length + ins.length := by
 unfold spliceP
 split
 ·simp; omega
 ·simp
theorem splice_body {at_ rm : Int} {ins : List UInt8} (hb : b.length ≤ MX) (hi : ins.length ≤ MX) (h : 0 ≤ at_ ∧ 0 ≤ rm ∧ at_ + rm ≤ b.length) :
  iadd at_ rm = at_ + rm ∧ slc b 0 at_ = some (b.take at_.toNat) ∧ slc b (at_ + rm) (b.length : Int) = some (b.drop (at_ + rm).toNat) ∧ app ([] : List UInt8) (b.take at_.toNat) = some (b.take at_.toNat) ∧ app (b.take at_.toNat) ins = some (b.take at_.toNat ++ ins) ∧ app (b.take at_.toNat ++ ins) (b.drop (at_ + rm).toNat) = some (b.take at_.toNat ++ ins ++ b.drop (at_ + rm).toNat) := by
 have := MXv; have := LIMv
 refine ⟨iadd_of (by omega) (by omega), ?_, ?_, ?_, ?_, ?_⟩
 ·rw [slc_all (by omega) (by omega) (by omega)]; simp
 ·rw [slc_all (by omega) (by omega) (by omega)]; simp
 ·rw [app_ok (by simp; omega)]; simp
 ·rw [app_ok (by simp; omega)]
 ·rw [app_ok (by simp; omega)]
theorem spec_Splice {at_ rm : Int} {ins : List UInt8} (hb : b.length ≤ MX) (hi : ins.length ≤ MX) : M_spec_SpliceBytes b at_ rm ins = some (spliceP b at_ rm ins) := by
 have := MXv; have := LIMv
 unfold M_spec_SpliceBytes spliceP
 have hbad : app ([] : List UInt8) b = some b := by rw [app_ok (by simp; omega)]; simp
 by_cases h1 : at_ < 0
 ·rw [decide_eq_true h1, if_neg (show ¬ (0 ≤ at_ ∧ 0 ≤ rm ∧ at_ + rm ≤ b.length) by omega), hbad]; rfl
 by_cases h2 : rm < 0
 ·rw [decide_eq_false h1, decide_eq_true h2, if_neg (show ¬ (0 ≤ at_ ∧ 0 ≤ rm ∧ at_ + rm ≤ b.length) by omega), hbad]; rfl
 by_cases h3 : (b.length : Int) < rm
 ·rw [decide_eq_false h1, decide_eq_false h2, decide_eq_true h3, if_neg (show ¬ (0 ≤ at_ ∧ 0 ≤ rm ∧ at_ + rm ≤ b.length) by omega), hbad]; rfl
 rw [decide_eq_false h1, decide_eq_false h2, decide_eq_false h3, isub_of (by omega) (by omega)]
 by_cases h4 : (b.length : Int) - rm < at_
 ·rw [decide_eq_true h4, if_neg (show ¬ (0 ≤ at_ ∧ 0 ≤ rm ∧ at_ + rm ≤ b.length) by omega), hbad]; rfl
 ·have h := show 0 ≤ at_ ∧ 0 ≤ rm ∧ at_ + rm ≤ b.length by omega
  obtain ⟨e1, e2, e3, e4, e5, e6⟩ := splice_body hb hi h
  rw [decide_eq_false h4, if_pos h, e1, e2, e3]
  simp only [Bool.false_eq_true, if_false, bd_some, e4, e5, e6]
theorem impl_Splice {at_ rm : Int} {ins : List UInt8} (hb : b.length ≤ MX) (hi : ins.length ≤ MX) : M_impl_SpliceBytes b at_ rm ins = some (spliceP b at_ rm ins) := by
 have := MXv; have := LIMv
 unfold M_impl_SpliceBytes spliceP
 have hbad : app ([] : List UInt8) b = some b := by rw [app_ok (by simp; omega)]; simp
 by_cases h1 : at_ < 0
 ·rw [decide_eq_true h1, if_neg (show ¬ (0 ≤ at_ ∧ 0 ≤ rm ∧ at_ + rm ≤ b.length) by omega), hbad]; rfl
 by_cases h2 : rm < 0
 ·rw [decide_eq_false h1, decide_eq_true h2, if_neg (show ¬ (0 ≤ at_ ∧ 0 ≤ rm ∧ at_ + rm ≤ b.length) by omega), hbad]; rfl
 by_cases h3 : (b.length : Int) < at_
 ·rw [decide_eq_false h1, decide_eq_false h2, decide_eq_true h3, if_neg (show ¬ (0 ≤ at_ ∧ 0 ≤ rm ∧ at_ + rm ≤ b.length) by omega), hbad]; rfl
 rw [decide_eq_false h1, decide_eq_false h2, decide_eq_false h3, isub_of (by omega) (by omega)]
 by_cases h4 : (b.length : Int) - at_ < rm
 ·rw [decide_eq_true h4, if_neg (show ¬ (0 ≤ at_ ∧ 0 ≤ rm ∧ at_ + rm ≤ b.length) by omega), hbad]; rfl
 ·have h := show 0 ≤ at_ ∧ 0 ≤ rm ∧ at_ + rm ≤ b.length by omega
  obtain ⟨e1, e2, e3, e4, e5, e6⟩ := splice_body hb hi h
  rw [decide_eq_false h4, if_pos h, e1, e2, e3]
  simp only [Bool.false_eq_true, if_false, bd_some, e4, e5, e6]
theorem sz_entry {a : Entry} {left : Int} (hl : left_ left) (ha : a.path.b.length ≤ LEN) : ∃ r, M_laws_szEntry a left = some r ∧ (r < 0 ∨ left_ r) := by
 have := MXv
 refine ⟨_, sz_one a.path.b hl ha, ?_⟩
 unfold left_ at *
 split <;> omega
theorem sz_entries {l : List Entry} {left : Int} (hl : left_ left) (ha : l.length ≤ LEN) (he : ∀ e ∈ l, e.path.b.length ≤ LEN) : ∃ r, M_laws_szEntryS l left = some r ∧ (r < 0 ∨ (left_ r ∧ l.length ≤ MX)) := by
 have hMX := MXv; have hLEN := LENv
 have hl' := hl
 unfold left_ at hl'
 unfold M_laws_szEntryS
 rw [isub_of (by omega) (by omega)]
 by_cases h : left - (l.length : Int) < 0
 ·rw [decide_eq_true h]; exact ⟨_, rfl, .inl (by omega)⟩
 rw [decide_eq_false h]
 simp only [Bool.false_eq_true, if_false]
 rcases forN_inv (σ := Int) (ρ := Int) (body := (fun k119 => (fun x114 => bd (idx l ((k119 : Nat) : Int)) fun x169 => bd (M_laws_szEntry x169 x114) fun r198 => if (decide (r198 < 0)) = true then some (.ret (-1)) else some (.next r198))))
   (fun _ s => left_ s) (fun r => r < 0) (n := l.length) (fun k s hk hi => by
    obtain ⟨r, e, g⟩ := sz_entry hi (he _ (List.getElem_mem hk))
    rw [idx_get hk, bd_some, e, bd_some]
    by_cases h0 : r < 0
    ·rw [decide_eq_true h0]; exact .inr ⟨_, rfl, by omega⟩
    ·rw [decide_eq_false h0]
     exact .inl ⟨_, rfl, g.resolve_left h0⟩) l.length 0 (left - l.length) (by omega) (by unfold left_; omega) with ⟨s, h1, h2⟩ | ⟨r, h1, h2⟩
 ·rw [h1]
  exact ⟨s, rfl, .inr ⟨h2, by omega⟩⟩
 ·rw [h1]
  exact ⟨_, rfl, .inl h2⟩
theorem to_entries {l : List Entry} (hl : l.length ≤ MX) : M_laws_toEntryS l = some l := by
 have := MXv; have := LIMv
 unfold M_laws_toEntryS
 rw [mk0_of (by omega), bd_some, copy_loop _ (fun k hk c hc => by
  have he : ∀ e : Entry, M_laws_toEntry e = some e := fun e => rfl
  rw [idx_get hk, bd_some, he, bd_some, upd_nat (by omega), bd_some])]; rfl
theorem held_byte {m : Nat} {k : Int} (h0 : 0 ≤ k) (hk : k + m ≤ 1152921504606846976) : M_laws_heldByteS ((List.range m).map (fun (i : Nat) => mkB (k + i))) k = some (k + m) := by
 unfold M_laws_heldByteS
 rw [forN_nextAt (fun j => k + (j : Int)) (n := ((List.range m).map (fun (i : Nat) => mkB (k + (i : Int)))).length) (by simp) (fun j hj => by
  rw [idx_get hj]
  simp at hj
  simp only [bd_some, List.getElem_map, List.getElem_range]
  rw [iadd_of (x := k + (j : Int)) (by omega) (by omega)]
  simp only [bne_self_eq_false, Bool.false_eq_true, if_false]
  congr 2
  omega)]
 simp
def updP (d : Desc) (l : List Entry) (b : List UInt8) (at_ rm : Int) (ins : List UInt8) : List UInt8 × List Entry × Bool :=
 if (spliceP b at_ rm ins).2 = true then (if okF d (spliceP b at_ rm ins).1 = true then ((spliceP b at_ rm ins).1, indexP d (spliceP b at_ rm ins).1, true) else (b, l, false)) else (b, l, false)
theorem app_nil {α : Type} {l : List α} (h : l.length ≤ MX) : app ([] : List α) l = some l := by
 have := MXv; have := LIMv
 rw [app_of (by simp; omega)]; simp
theorem spec_Update {n : Nat} (hn : 1000 ≤ n) (hd : SmD d) {l : List Entry} (hl : l.length ≤ MX) (hb : b.length ≤ MX) {at_ rm : Int} {ins : List UInt8} (hi : ins.length ≤ MX) : M_spec_UpdateIndex n d l b at_ rm ins = some (updP d l b at_ rm ins) := by
 unfold M_spec_UpdateIndex updP
 rw [spec_Splice hb hi]
 generalize spliceP b at_ rm ins = p
 obtain ⟨x, ok⟩ := p
 have hc : M_spec_l23Copy l = some l := by unfold M_spec_l23Copy; rw [app_nil hl]; rfl
 simp only [bd2_some]
 rw [spec_BuildIndex hd hn]
 cases ok <;> cases okF d x <;> simp [hc, app_nil hb]
theorem impl_Update {n : Nat} (hn : 1000 ≤ n) (hd : SmD d) {l : List Entry} (hl : l.length ≤ MX) (hb : b.length ≤ MX) {at_ rm : Int} {ins : List UInt8} (hi : ins.length ≤ MX) : M_impl_UpdateIndex n d l b at_ rm ins = some (updP d l b at_ rm ins) := by
 unfold M_impl_UpdateIndex updP
 rw [impl_Splice hb hi]
 generalize spliceP b at_ rm ins = p
 obtain ⟨x, ok⟩ := p
 simp only [bd2_some]
 rw [impl_BuildIndex hd hn]
 cases ok <;> cases okF d x <;> simp [app_nil hb, app_nil hl]
theorem updP_len (d : Desc) {l : List Entry} (hl : l.length ≤ MX) {b : List UInt8} (hb : b.length ≤ MX) (at_ rm : Int) {ins : List UInt8} (hi : ins.length ≤ MX) : (updP d l b at_ rm ins).1.length ≤ 2 * MX ∧ (updP d l b at_ rm ins).2.1.length ≤ MX := by
 have := MXv
 have h1 := spliceP_len b at_ rm ins
 have h2 := indexP_len (d := d) (b := (spliceP b at_ rm ins).1)
 unfold updP
 split
 ·split
  ·exact ⟨by simp only; omega, by simp only; omega⟩
  ·exact ⟨by simp only; omega, by simp only; omega⟩
 ·exact ⟨by simp only; omega, by simp only; omega⟩
theorem law_UpdateIndex {n : Nat} (hn : 4000000 ≤ n) {d : Desc} {l : List Entry} {b : List UInt8} {a1 a2 : Int} {ins : List UInt8} (hd : LnD d) (hl : l.length ≤ LEN) (hle : ∀ e ∈ l, e.path.b.length ≤ LEN) (hb : b.length ≤ LEN) (hi : ins.length ≤ LEN) : M_laws_FnExactUpdateIndex n d l b a1 a2 ins = some true := by
 have hMX := MXv; have hLEN := LENv
 unfold M_laws_FnExactUpdateIndex
 by_cases h1 : (1048576 : Int) < (b.length : Int)
 ·rw [decide_eq_true h1]; rfl
 rw [decide_eq_false h1]
 simp only [Bool.false_eq_true, if_false]
 by_cases h1' : (1048576 : Int) < (ins.length : Int)
 ·rw [decide_eq_true h1']; rfl
 rw [decide_eq_false h1']
 obtain ⟨r, hr, hr2⟩ := sz_desc hd
 simp only [Bool.false_eq_true, if_false]
 rw [hr, bd_some]
 by_cases h2 : r < 0
 ·rw [decide_eq_true h2]; rfl
 rw [decide_eq_false h2]
 have hs := (hr2.resolve_left h2).2
 obtain ⟨r', hr', hr2'⟩ := sz_entries (hr2.resolve_left h2).1 hl hle
 simp only [Bool.false_eq_true, if_false]
 rw [hr', bd_some]
 by_cases h3 : r' < 0
 ·rw [decide_eq_true h3]; rfl
 rw [decide_eq_false h3]
 have hlm := (hr2'.resolve_left h3).2
 have hbm : b.length ≤ MX := by omega
 have him : ins.length ≤ MX := by omega
 obtain ⟨hu1, hu2⟩ := updP_len d hlm hbm a1 a2 him
 simp only [Bool.false_eq_true, if_false, to_desc hs, to_byte hbm, to_byte him, to_entries hlm, bd_some, bd2_some, bd3_some, spec_Update (show 1000 ≤ n by omega) hs hlm hbm him, impl_Update (show 1000 ≤ n by omega) hs hlm hbm him]
 generalize updP d l b a1 a2 ins = u at hu1 hu2
 obtain ⟨u1, u2, u3⟩ := u
 simp only at hu1 hu2
 simp only [Bool.false_eq_true, if_false, bd_some, bd2_some, bd3_some, eq_entries, eq_desc, eq_byte, Bool.not_true, bne_self_eq_false]
 obtain ⟨k', l', hm, hk0, hk1⟩ := mark_desc (n := n) hs (by omega)
 rw [hm]
 simp only [bd2_some]
 rw [mark_entry hk0 (by omega) (by omega) (by omega)]
 simp only [bd2_some]
 rw [mark_byte (by omega) (by omega) (by omega)]
 simp only [bd2_some]
 rw [mark_byte (by omega) (by omega) (by omega)]
 simp only [bd2_some]
 rw [decide_eq_false (by omega)]
 simp only [Bool.false_eq_true, if_false, bd_some]
 rw [mark_byte (by omega) (by omega) (by omega)]
 simp only [bd2_some]
 rw [mark_entry (by omega) (by omega) (by omega) (by omega)]
 simp only [bd2_some]
 rw [held_byte (by omega) (by omega)]
 simp only [bd_some]
 rw [decide_eq_false (show ¬ 1 + ((u1.length : Nat) : Int) < 0 by omega)]
 simp only [Bool.false_eq_true, if_false]
 rw [held_entry (by omega) (by omega) (by omega)]
 simp only [bd_some]
 rw [decide_eq_false (show ¬ 1 + ((u1.length : Nat) : Int) + 4 * ((u2.length : Nat) : Int) < 0 by omega)]
 simp only [Bool.false_eq_true, if_false, bne_self_eq_false]
end Go.Vw
