import Derived.Test.YteefdabnmfpogaaGreatDoorVwP23
namespace Go.Vw
open Go.RowKit Dat
section
variable {d : Desc} {b b' : List UInt8} {e : Nat}
theorem seek_mono {r : Rule} {s : Str} {rd : Int → Nat → RR} {B : Nat} : ∀ (ks : List Int) (j p : Nat), (∀ k ∈ ks, ∀ p, p ≤ B → p ≤ (rd k p).2.1 ∧ (rd k p).2.1 ≤ B) → p ≤ B → ∀ i q, seek r s rd ks j p = some (i, q) → p ≤ q
 | [], _, _, _, _, i, q, h => by cases h
 | k :: ks, j, p, hle, hp, i, q, h => by
  have hk := hle k List.mem_cons_self p hp
  unfold seek at h
  split at h
  ·cases h; exact Nat.le_refl _
  split at h
  ·exact Nat.le_trans hk.1 (seek_mono ks (j + 1) _ (fun k hk => hle k (List.mem_cons_of_mem _ hk)) hk.2 i q h)
  ·cases h
theorem seek_pre {r : Rule} {s : Str} {rd rd' : Int → Nat → RR} {B : Nat} : ∀ (ks : List Int) (j p : Nat), (∀ k ∈ ks, ∀ p, p ≤ B → p ≤ (rd k p).2.1 ∧ (rd k p).2.1 ≤ B) → (∀ k ∈ ks, ∀ p, p ≤ B → (rd k p).2.2 = 0 → (rd k p).2.1 ≤ e → rd' k p = rd k p) → p ≤ B → ∀ i q, seek r s rd ks j p = some (i, q) → q ≤ e → seek r s rd' ks j p = some (i, q)
 | [], _, _, _, _, _, i, q, h, _ => by cases h
 | k :: ks, j, p, hle, hr, hp, i, q, h, hq => by
  have hk := hle k List.mem_cons_self p hp
  unfold seek at h ⊢
  by_cases hs : (stepP r j).b = s.b
  ·rw [if_pos hs] at h ⊢; exact h
  ·rw [if_neg hs] at h ⊢
   by_cases h0 : (rd k p).2.2 = 0
   ·rw [if_pos h0] at h
    have hm := seek_mono ks (j + 1) _ (fun k hk => hle k (List.mem_cons_of_mem _ hk)) hk.2 i q h
    rw [hr k List.mem_cons_self p hp h0 (by omega), if_pos h0]
    exact seek_pre ks (j + 1) _ (fun k hk => hle k (List.mem_cons_of_mem _ hk)) (fun k hk => hr k (List.mem_cons_of_mem _ hk)) hk.2 i q h hq
   ·rw [if_neg h0] at h; cases h
theorem stepT_pre (hv : valid d = true) {i : Nat} (hi : i < d.rules.length) {p : Nat} (hp : p ≤ b.length) {s : Str} {k q : Nat} (h : stepT d.rules b d.rules[i] p s = some (k, q)) : p ≤ q ∧ ∀ (b' : List UInt8) (e : Nat), Agree b b' e → q ≤ e → stepT d.rules b' d.rules[i] p s = some (k, q) := by
 have hr := valid_rule hv hi
 unfold stepT at h ⊢
 by_cases hkk : 5 ≤ d.rules[i].kind ∧ d.rules[i].kind ≤ 9
 ·rw [if_pos hkk] at h
  simp only [if_pos hkk]
  cases hh : headC d.rules b d.rules[i] p with
  | inl c => rw [hh] at h; cases h
  | inr y =>
   obtain ⟨num, ks, st⟩ := y
   rw [hh] at h
   simp only at h
   have hks := headC_kids hr.kind hkk hp hh
   have hpos : ∀ k ∈ ks, 0 ≤ k ∧ k < (i : Int) := fun k hk => hr.kids k (hks.1 k hk)
   have hmono : ∀ k ∈ ks, ∀ p, p ≤ b.length → p ≤ (rdK d.rules b k p).2.1 ∧ (rdK d.rules b k p).2.1 ≤ b.length := fun k hk p hp => rdW_le hv k.toNat (by have := hpos k hk; omega) p hp
   have hm := seek_mono ks 0 st hmono hks.2.2.1 k q h
   refine ⟨by omega, fun b' e hA hq => ?_⟩
   rw [headC_pre hA hr.kind hh (show st ≤ e by omega)]
   exact seek_pre (e := e) ks 0 st hmono (fun k hk p hp h0 he => rdW_pre hv hA k.toNat (by have := hpos k hk; omega) p hp h0 he) hks.2.2.1 k q h hq
 ·rw [if_neg hkk] at h; cases h
theorem locL_pre (hv : valid d = true) : ∀ (ss : List Str) (i p : Nat), i < d.rules.length → p ≤ b.length → ∀ k q, locL d b ss i p = some (k, q) → p ≤ q ∧ ∀ (b' : List UInt8) (e : Nat), Agree b b' e → q ≤ e → locL d b' ss i p = some (k, q)
 | [], i, p, hi, hp, k, q, h => by
  cases h
  exact ⟨Nat.le_refl _, fun b' e _ _ => rfl⟩
 | s :: ss, i, p, hi, hp, k, q, h => by
  unfold locL at h ⊢
  rw [getD_rule hi] at h ⊢
  cases hs : stepT d.rules b d.rules[i] p s with
  | none => rw [hs] at h; cases h
  | some x =>
   obtain ⟨k', q'⟩ := x
   rw [hs] at h
   have h1 := stepT_ok hv hi hp hs
   have h2 := stepT_pre hv hi hp hs
   have h3 := locL_pre hv ss k' q' (by omega) h1.2 k q h
   refine ⟨by omega, fun b' e hA hq => ?_⟩
   rw [h2.2 b' e hA (by omega)]
   exact h3.2 b' e hA hq
theorem findP_pre {path : Str} {x : Nat × Nat} (hf : findP d b path = some x) (hA : Agree b b' x.2) : findP d b' path = if b'.length ≤ 400 ∧ (rdW d.rules b' x.1 x.2).2.2 = 0 then some x else none := by
 unfold findP at hf ⊢
 split at hf
 ·rename_i hc
  have hl := valid_len hc.2.1
  cases hs : locL d b (splitP path).1 (d.rules.length - 1) 0 with
  | none => rw [hs] at hf; cases hf
  | some y =>
   rw [hs] at hf
   simp only at hf
   split at hf
   ·cases hf
    have := (locL_pre hc.2.1 _ _ _ (by omega) (by omega) x.1 x.2 hs).2 b' x.2 hA (Nat.le_refl _)
    by_cases hb : b'.length ≤ 400
    ·rw [if_pos ⟨hc.1, hc.2.1, hb⟩, this]
     simp only [hb, true_and]
    ·rw [if_neg (fun h => hb h.2.2), if_neg (fun h => hb h.1)]
   ·cases hf
 ·cases hf
def newB (b : List UInt8) (p en : Nat) (ins : List UInt8) : List UInt8 := b.take p ++ ins ++ b.drop en
def editP (d : Desc) (b : List UInt8) (path : Str) (ins : List UInt8) : List UInt8 × Bool := match findP d b path with
 | none => (b, false)
 | some x =>
  if (findP d (newB b x.2 (rdW d.rules b x.1 x.2).2.1 ins) path).isSome = true ∧ okF d (newB b x.2 (rdW d.rules b x.1 x.2).2.1 ins) = true ∧ (rdW d.rules (newB b x.2 (rdW d.rules b x.1 x.2).2.1 ins) x.1 x.2).2.1 = x.2 + ins.length then (newB b x.2 (rdW d.rules b x.1 x.2).2.1 ins, true) else (b, false)
theorem newB_len {p en : Nat} {ins : List UInt8} : (newB b p en ins).length ≤ b.length + ins.length + b.length := by unfold newB; simp; omega
theorem newB_agree {p en : Nat} {ins : List UInt8} (hp : p ≤ b.length) : Agree b (newB b p en ins) p := by
 refine ⟨hp, by unfold newB; simp; omega, ?_⟩
 unfold newB
 rw [List.append_assoc, List.take_append_of_le_length (by simp; omega), List.take_take, Nat.min_self]
theorem newB_piece {p en : Nat} {ins : List UInt8} (hp : p ≤ b.length) : piece (newB b p en ins) p (p + ins.length) = ins := by
 unfold piece newB
 have : (b.take p ++ ins).length = p + ins.length := by simp; omega
 rw [← this, List.take_left', List.drop_append_of_le_length (by simp; omega)]
 ·rw [List.drop_of_length_le (by simp; omega)]; rfl
 ·rfl
theorem editP_len (path : Str) (ins : List UInt8) : (editP d b path ins).1.length ≤ b.length + ins.length + b.length := by
 unfold editP
 split
 ·simp only; omega
 ·split
  ·exact newB_len
  ·simp only; omega
theorem splice_at {p en : Nat} {ins : List UInt8} (h1 : p ≤ en) (h2 : en ≤ b.length) : spliceP b p ((en : Int) - p) ins = (newB b p en ins, true) := by
 unfold spliceP newB
 rw [if_pos (by omega), show ((p : Int) + ((en : Int) - p)).toNat = en by omega, Int.toNat_natCast]
theorem spec_Local (hd : SmD d) (hb : b.length ≤ MX) {n : Nat} (hn : 1048600 ≤ n) {path : Str} (hp : path.b.length ≤ MX) {ins : List UInt8} (hi : ins.length ≤ MX) : M_spec_LocalEdit n d b path ins = some (editP d b path ins) := by
 have hMX := MXv
 unfold M_spec_LocalEdit editP
 rw [app_nil hb, bd_some, spec_LocatePart hd hn hp]
 unfold locP
 cases hf : findP d b path with
 | none => rfl
 | some x =>
  obtain ⟨hv, hb4, h1, h2, h0⟩ := findP_ok hf
  have hle := rdW_le hv x.1 h1 x.2 h2
  simp only [bd2_some, Bool.not_true, Bool.false_eq_true, if_false]
  rw [isub_of (by omega) (by omega), spec_Splice hb hi, splice_at hle.1 hle.2]
  simp only [bd2_some]
  rw [spec_LocatePart hd hn hp]
  have hA := newB_agree (b := b) (p := x.2) (en := (rdW d.rules b x.1 x.2).2.1) (ins := ins) h2
  have hfp := findP_pre hf hA
  generalize newB b x.2 (rdW d.rules b x.1 x.2).2.1 ins = u at *
  unfold locP
  rw [hfp]
  by_cases hc : u.length ≤ 400 ∧ (rdW d.rules u x.1 x.2).2.2 = 0
  ·rw [if_pos hc]
   have hl2 := hA.l2
   have hle' := rdW_le hv x.1 h1 x.2 (b := u) hl2
   simp only [bd2_some, Bool.not_true, Bool.false_eq_true, if_false, spec_IsFileOf hd (show 500 ≤ n by omega), bd_some, Option.isSome_some, true_and, bne_self_eq_false]
   rw [iadd_of (by omega) (by omega)]
   cases okF d u with
   | false => rfl
   | true =>
    simp only [Bool.not_true, Bool.false_eq_true, if_false, bd_some, true_and]
    by_cases he : (rdW d.rules u x.1 x.2).2.1 = x.2 + ins.length
    ·rw [if_pos he, he]
     simp
    ·rw [if_neg he, if_pos (by simp; omega)]
  ·rw [if_neg hc]; rfl
theorem impl_IsFile (hd : SmD d) {n : Nat} (hn : 500 ≤ n) : M_impl_IsFileOf n d b = some (okF d b) := by
 unfold M_impl_IsFileOf okF
 rw [impl_ReadFile hd hn]; rfl
theorem impl_Index {p en : Nat} (h1 : p ≤ en) (h2 : en ≤ b.length) (hb : b.length ≤ 4194304) {path : Str} {i : Int} : M_impl_IndexBytes b ⟨path, i, p, en⟩ = some (piece b p en) := by
 unfold M_impl_IndexBytes
 simp only
 rw [decide_eq_false (show ¬ (p : Int) < 0 by omega), decide_eq_false (show ¬ (en : Int) < (p : Int) by omega), decide_eq_false (show ¬ (b.length : Int) < (en : Int) by omega)]
 simp only [Bool.false_eq_true, if_false, bd_some]
 rw [slc_piece h1 h2, bd_some, app_of (by rw [LIMv, piece_len h2]; simp; omega)]
 rfl
theorem impl_Equal (x y : List UInt8) : M_impl_EqualBytes x y = some (x == y) := rfl
theorem impl_Local (hd : SmD d) (hb : b.length ≤ MX) {n : Nat} (hn : 1048600 ≤ n) {path : Str} (hp : path.b.length ≤ MX) {ins : List UInt8} (hi : ins.length ≤ MX) : M_impl_LocalEdit n d b path ins = some (editP d b path ins) := by
 have hMX := MXv
 unfold M_impl_LocalEdit editP
 rw [impl_LocatePart hd hn hp]
 unfold locP
 cases hf : findP d b path with
 | none =>
  simp only [bd2_some, Bool.false_eq_true, if_false, bd_some, el_inl, app_nil hb]
 | some x =>
  obtain ⟨hv, hb4, h1, h2, h0⟩ := findP_ok hf
  have hle := rdW_le hv x.1 h1 x.2 h2
  simp only [bd2_some, if_true]
  rw [isub_of (by omega) (by omega), impl_Splice hb hi, splice_at hle.1 hle.2]
  simp only [bd2_some]
  rw [impl_LocatePart hd hn hp]
  have hA := newB_agree (b := b) (p := x.2) (en := (rdW d.rules b x.1 x.2).2.1) (ins := ins) h2
  have hpc := newB_piece (b := b) (p := x.2) (en := (rdW d.rules b x.1 x.2).2.1) (ins := ins) h2
  have hnl := newB_len (b := b) (p := x.2) (en := (rdW d.rules b x.1 x.2).2.1) (ins := ins)
  have hfp := findP_pre hf hA
  generalize newB b x.2 (rdW d.rules b x.1 x.2).2.1 ins = u at *
  unfold locP
  rw [hfp]
  by_cases hc : u.length ≤ 400 ∧ (rdW d.rules u x.1 x.2).2.2 = 0
  ·rw [if_pos hc]
   have hl2 := hA.l2
   have hle' := rdW_le hv x.1 h1 x.2 (b := u) hl2
   simp only [bd2_some, if_true, impl_IsFile hd (show 500 ≤ n by omega), bd_some, Option.isSome_some, true_and]
   rw [impl_Index hle'.1 hle'.2 (by omega), bd_some, impl_Equal]
   have hiff : (piece u x.2 (rdW d.rules u x.1 x.2).2.1 == ins) = decide ((rdW d.rules u x.1 x.2).2.1 = x.2 + ins.length) := by
    by_cases he : (rdW d.rules u x.1 x.2).2.1 = x.2 + ins.length
    ·rw [decide_eq_true he, he, hpc]; simp
    ·rw [decide_eq_false he, beq_eq_false_iff_ne]
     intro h
     have := congrArg List.length h
     rw [piece_len hle'.2] at this
     omega
   rw [hiff]
   cases okF d u with
   | false =>
    simp only [Bool.false_eq_true, if_false, bd_some, el_inl, app_nil hb, false_and]
   | true =>
    simp only [if_true, bd_some, true_and]
    by_cases he : (rdW d.rules u x.1 x.2).2.1 = x.2 + ins.length
    ·rw [decide_eq_true he, if_pos he]; rfl
    ·rw [decide_eq_false he, if_neg he]
     simp only [Bool.false_eq_true, if_false, bd_some, el_inl, app_nil hb]
  ·rw [if_neg hc]
   simp only [bd2_some, Bool.false_eq_true, if_false, bd_some, el_inl, app_nil hb, Option.isSome_none, false_and]
theorem law_LocalEdit {n : Nat} (hn : 4000000 ≤ n) {path : Str} {ins : List UInt8} (hd : LnD d) (hb : b.length ≤ LEN) (hp : path.b.length ≤ LEN) (hi : ins.length ≤ LEN) : M_laws_FnExactLocalEdit n d b path ins = some true := by
 have hMX := MXv; have hLEN := LENv
 unfold M_laws_FnExactLocalEdit
 by_cases h1 : (1048576 : Int) < (b.length : Int)
 ·rw [decide_eq_true h1]; rfl
 rw [decide_eq_false h1]
 simp only [Bool.false_eq_true, if_false]
 by_cases h3 : (1048576 : Int) < (path.b.length : Int)
 ·rw [decide_eq_true h3]; rfl
 rw [decide_eq_false h3]
 simp only [Bool.false_eq_true, if_false]
 by_cases h4 : (1048576 : Int) < (ins.length : Int)
 ·rw [decide_eq_true h4]; rfl
 rw [decide_eq_false h4]
 obtain ⟨r, hr, hr2⟩ := sz_desc hd
 simp only [Bool.false_eq_true, if_false]
 rw [hr, bd_some]
 by_cases h2 : r < 0
 ·rw [decide_eq_true h2]; rfl
 rw [decide_eq_false h2]
 have hs := (hr2.resolve_left h2).2
 have hbm : b.length ≤ MX := by omega
 have hpm : path.b.length ≤ MX := by omega
 have him : ins.length ≤ MX := by omega
 simp only [Bool.false_eq_true, if_false, to_desc hs, to_byte hbm, to_byte him, bd_some, spec_Local hs hbm (show 1048600 ≤ n by omega) hpm him, impl_Local hs hbm (show 1048600 ≤ n by omega) hpm him]
 have hel := editP_len (d := d) (b := b) path ins
 generalize editP d b path ins = u at *
 obtain ⟨v, ok⟩ := u
 simp only at hel
 simp only [bd2_some, bd_some, Bool.not_true, Bool.false_eq_true, if_false, bne_self_eq_false, eq_desc, eq_byte]
 obtain ⟨k', l', hm, hk0, hk1⟩ := mark_desc (n := n) hs (by omega)
 rw [hm]
 simp only [bd2_some]
 rw [mark_byte (by omega) (by omega) (by omega)]
 simp only [bd2_some]
 rw [mark_byte (by omega) (by omega) (by omega)]
 simp only [bd2_some]
 rw [decide_eq_false (by omega)]
 simp only [Bool.false_eq_true, if_false, bd_some]
 rw [mark_byte (by omega) (by omega) (by omega)]
 simp only [bd2_some]
 rw [show (List.range v.length).map (fun (i : Nat) => mkB (1 + (i : Int))) = markB v.length 1 from rfl, held_bytes (by omega) (by omega)]
 simp only [bd_some]
 rw [decide_eq_false (show ¬ (1 : Int) + (v.length : Int) < 0 by omega)]
 simp only [Bool.false_eq_true, if_false, bne_self_eq_false]
end
end Go.Vw
