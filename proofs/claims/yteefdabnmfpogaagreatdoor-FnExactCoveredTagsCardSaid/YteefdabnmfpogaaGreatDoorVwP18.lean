import Derived.Test.YteefdabnmfpogaaGreatDoorVwP17
namespace Go.Vw
open Go.RowKit Dat
theorem forN_nextAt' {σ ρ : Type} {body : Nat → σ → Option (Out σ ρ)} (f : Nat → σ) {n : Nat} {s : σ} (h0 : s = f 0) (h : ∀ j, j < n → body j (f j) = some (.next (f (j + 1)))) : forN body n 0 s = some (.inl (f n)) := by
 subst h0; exact forN_next f h
theorem markS_eq' {n : Nat} (h30 : 30 ≤ n) {k : Int} (h0 : 0 ≤ k) (hk : k ≤ 1152921504606846976) : M_laws_markText n k = some (markS n k) := by
 obtain ⟨t, ht, _⟩ := mark_text h30 h0 hk
 unfold markS; rw [ht]; rfl
theorem held_string {n m : Nat} {k : Int} (h0 : 0 ≤ k) (hk : k + m ≤ 1152921504606846976) (h30 : 30 ≤ n) : M_laws_heldStringS n ((List.range m).map (fun (i : Nat) => markS n (k + i))) k = some (k + m) := by
 unfold M_laws_heldStringS
 rw [forN_nextAt' (fun j => k + (j : Int)) (n := ((List.range m).map (fun (i : Nat) => markS n (k + (i : Int)))).length) (by simp) (fun j hj => by
  rw [idx_get hj]
  simp at hj
  simp only [bd_some, List.getElem_map, List.getElem_range]
  rw [markS_eq' h30 (by omega) (by omega), bd_some]
  rw [iadd_of (x := k + (j : Int)) (by omega) (by omega)]
  simp only [bne_self_eq_false, Bool.false_eq_true, if_false]
  congr 2
  omega)]
 simp
theorem law_CoveredTags {n : Nat} (hn : 4000000 ≤ n) {d : Desc} {b : List UInt8} (hd : LnD d) (hb : b.length ≤ LEN) : M_laws_FnExactCoveredTags n d b = some true := by
 have hMX := MXv; have hLEN := LENv
 unfold M_laws_FnExactCoveredTags
 by_cases h1 : (1048576 : Int) < (b.length : Int)
 ·rw [decide_eq_true h1]; rfl
 rw [decide_eq_false h1]
 obtain ⟨r, hr, hr2⟩ := sz_desc hd
 simp only [Bool.false_eq_true, if_false]
 rw [hr, bd_some]
 by_cases h2 : r < 0
 ·rw [decide_eq_true h2]; rfl
 rw [decide_eq_false h2]
 have hs := (hr2.resolve_left h2).2
 have hbm : b.length ≤ MX := by omega
 have hc := covB_len d b (indexP d b) []
 have hl : (indexP d b).length ≤ 10000 := indexP_len'
 have hcl : (covP d b).length ≤ 10000 := by unfold covP; simp at hc; omega
 simp only [Bool.false_eq_true, if_false, to_desc hs, to_byte hbm, bd_some, spec_Covered (show 1000 ≤ n by omega) hs, impl_Covered (show 1000 ≤ n by omega) hs]
 generalize covP d b = u at hcl
 simp only [Bool.false_eq_true, if_false, bd_some, eq_string, eq_desc, eq_byte, Bool.not_true, bne_self_eq_false]
 obtain ⟨k', l', hm, hk0, hk1⟩ := mark_desc (n := n) hs (by omega)
 rw [hm]
 simp only [bd2_some]
 rw [mark_byte (by omega) (by omega) (by omega)]
 simp only [bd2_some]
 rw [decide_eq_false (by omega)]
 simp only [Bool.false_eq_true, if_false, bd_some]
 rw [mark_string (by omega) (by omega) (by omega) (by omega)]
 simp only [bd2_some]
 rw [held_string (by omega) (by omega) (by omega)]
 simp only [bd_some]
 rw [decide_eq_false (show ¬ 1 + ((u.length : Nat) : Int) < 0 by omega)]
 simp only [Bool.false_eq_true, if_false, bne_self_eq_false]
end Go.Vw
