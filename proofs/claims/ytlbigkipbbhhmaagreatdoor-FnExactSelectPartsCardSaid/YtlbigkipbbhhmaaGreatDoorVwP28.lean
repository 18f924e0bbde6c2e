import Derived.Test.YtlbigkipbbhhmaaGreatDoorVwP27
namespace Go.Vw
open Go.RowKit Dat
section
variable {d : Desc} {b : List UInt8}
def selP (d : Desc) (b : List UInt8) (pattern : Str) : List Entry := (indexP d b).filter (fun e => matchP pattern e.path)
theorem filter_next {α : Type} {f : α → Bool} {l : List α} {k : Nat} (hk : k < l.length) : (l.take (k + 1)).filter f = if f l[k] = true then (l.take k).filter f ++ [l[k]] else (l.take k).filter f := by
 rw [take_one hk, List.filter_append]
 cases h : f l[k] <;> simp [h]
theorem path_small {e : Entry} (he : e ∈ indexP d b) : e.path.b.length ≤ MX := by
 have hMX := MXv
 obtain ⟨_, _, i, p, L⟩ := entry_in he
 have := L.path
 omega
theorem psh_small {l : List Entry} (h : l.length ≤ 10000) (x : Entry) : psh l x = some (l ++ [x]) := psh_of (by rw [LIMv]; omega)
theorem take_small (f : Entry → Bool) (k : Nat) : (((indexP d b).take k).filter f).length ≤ 10000 := by
 have h1 := indexP_len (d := d) (b := b)
 have h2 := List.length_filter_le f ((indexP d b).take k)
 rw [List.length_take] at h2
 omega
theorem spec_Select {n : Nat} (hn : 1048600 ≤ n) (hd : SmD d) {pattern : Str} (hp : pattern.b.length ≤ MX) : M_spec_SelectParts n d b pattern = some (selP d b pattern) := by
 unfold M_spec_SelectParts selP
 rw [spec_BuildIndex hd (by omega)]
 simp only [bd2_some]
 refine (congrArg (fun z => bd z _) (forN_nextAt (fun k => ((indexP d b).take k).filter (fun e => matchP pattern e.path)) (n := (indexP d b).length) rfl (fun k hk => ?_))).trans ?_
 ·simp only [ix_ hk, bd_some, spec_MatchPath hn hp (path_small (gE_ hk))]
  rw [filter_next hk]
  cases matchP pattern (indexP d b)[k].path with
  | true => simp only [fT_]; rw [psh_small (take_small _ k)]; rfl
  | false => rfl
 ·rw [bd_some, el_inl, List.take_length]
theorem impl_Select {n : Nat} (hn : 1048600 ≤ n) (hd : SmD d) {pattern : Str} (hp : pattern.b.length ≤ MX) : M_impl_SelectParts n d b pattern = some (selP d b pattern) := by
 unfold M_impl_SelectParts
 rw [impl_BuildIndex hd (by omega)]
 simp only [bd2_some]
 cases hok : okF d b with
 | false =>
  have : selP d b pattern = [] := by unfold selP indexP; rw [hok]; rfl
  rw [this]; rfl
 | true =>
  simp only [nT_, bF_, fF_]
  unfold M_impl_selectEntries_impl_SelectParts_1 M_impl_SelectParts_1 selP
  refine (congrArg (fun z => bd (bd z _) _) (forN_nextAt (fun k => ((indexP d b).take k).filter (fun e => matchP pattern e.path)) (n := (indexP d b).length) rfl (fun k hk => ?_))).trans ?_
  ·simp only [ix_ hk, bd_some, impl_MatchPath hn hp (path_small (gE_ hk))]
   rw [filter_next hk]
   cases matchP pattern (indexP d b)[k].path with
   | true => simp only [fT_]; rw [psh_small (take_small _ k)]; rfl
   | false => rfl
  ·rw [bd_some, el_inl, List.take_length]; rfl
theorem selP_len (pattern : Str) : (selP d b pattern).length ≤ 10000 := by
 have h1 := indexP_len (d := d) (b := b)
 have h2 := List.length_filter_le (fun e : Entry => matchP pattern e.path) (indexP d b)
 unfold selP; omega
theorem law_SelectParts {n : Nat} (hn : 4000000 ≤ n) {pattern : Str} (hd : LnD d) (hb : b.length ≤ LEN) (hp : pattern.b.length ≤ LEN) : M_laws_FnExactSelectParts n d b pattern = some true := by
 have hMX := MXv; have hLEN := LENv
 unfold M_laws_FnExactSelectParts
 by_cases h1 : (1048576 : Int) < (b.length : Int)
 ·rw [dT_ h1]; rfl
 rw [dF_ h1]
 simp only [bF_, fF_]
 by_cases h3 : (1048576 : Int) < (pattern.b.length : Int)
 ·rw [dT_ h3]; rfl
 rw [dF_ h3]
 obtain ⟨r, hr, hr2⟩ := sz_desc hd
 simp only [bF_, fF_]
 rw [hr, bd_some]
 by_cases h2 : r < 0
 ·rw [dT_ h2]; rfl
 rw [dF_ h2]
 have hs := (hr2.resolve_left h2).2
 have hbm : b.length ≤ MX := by omega
 have hpm : pattern.b.length ≤ MX := by omega
 have hcl := selP_len (d := d) (b := b) pattern
 simp only [bF_, fF_, to_desc hs, to_byte hbm, bd_some, spec_Select (show 1048600 ≤ n by omega) hs hpm, impl_Select (show 1048600 ≤ n by omega) hs hpm]
 generalize selP d b pattern = u at hcl
 simp only [eq_entries, eq_desc, eq_byte, bd_some, nT_, bF_, fF_, bN_]
 obtain ⟨k', l', hm, hk0, hk1⟩ := mark_desc (n := n) hs (by omega)
 rw [hm]
 simp only [bd2_some]
 rw [mark_byte hk0 (by omega) (by omega)]
 simp only [bd2_some]
 rw [dF_ (show ¬ k' + (b.length : Int) < 0 by omega)]
 simp only [bF_, fF_, bd_some]
 rw [mark_entry (by omega) (by omega) (by omega) (by omega)]
 simp only [bd2_some]
 rw [held_entry (by omega) (by omega) (by omega)]
 simp only [bd_some]
 rw [dF_ (show ¬ 1 + 4 * (u.length : Int) < 0 by omega)]
 simp only [bF_, fF_, bN_]
end
end Go.Vw
