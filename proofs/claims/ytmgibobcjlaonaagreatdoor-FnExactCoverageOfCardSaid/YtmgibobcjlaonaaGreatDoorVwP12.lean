/- The law of CoverageOf, on data: it comes out true. -/
import Derived.Test.YtmgibobcjlaonaaGreatDoorVwP11
namespace Go.Vw
open Go.RowKit Dat
theorem coverP_len {d : Desc} {b : List UInt8} (hd : SmD d) : (coverP d b).length ≤ MX := by
  have := hd.rules
  unfold coverP
  split
  · rw [countP_len]; exact this
  · simp
theorem law_CoverageOf {n : Nat} (hn : 4000000 ≤ n) {d : Desc} {b : List UInt8} (hd : LnD d) (hb : b.length ≤ LEN) : M_laws_FnExactCoverageOf n d b = some true := by
  have hMX := MXv; have hLEN := LENv
  unfold M_laws_FnExactCoverageOf
  by_cases h1 : (1048576 : Int) < (b.length : Int)
  · rw [decide_eq_true h1]; rfl
  rw [decide_eq_false h1]
  obtain ⟨r, hr, hr2⟩ := sz_desc hd
  simp only [Bool.false_eq_true, if_false]
  rw [hr, bd_some]
  by_cases h2 : r < 0
  · rw [decide_eq_true h2]; rfl
  rw [decide_eq_false h2]
  have hs := (hr2.resolve_left h2).2
  have hbm : b.length ≤ MX := by omega
  have hcl := coverP_len (d := d) (b := b) hs
  simp only [Bool.false_eq_true, if_false, to_desc hs, to_byte hbm, bd_some, spec_CoverageOf hs (show 1000 ≤ n by omega), impl_CoverageOf hs (show 1000 ≤ n by omega), eq_int, eq_desc, eq_byte, Bool.not_true]
  obtain ⟨k', l', hm, hk0, hk1⟩ := mark_desc (n := n) hs (by omega)
  rw [hm]
  simp only [bd2_some]
  rw [mark_byte hk0 (by omega) (by omega)]
  simp only [bd2_some]
  rw [decide_eq_false (show ¬ k' + (b.length : Int) < 0 by omega)]
  simp only [Bool.false_eq_true, if_false, bd_some]
  rw [mark_int (by omega) (by omega) (by omega)]
  simp only [bd2_some]
  rw [held_int (by omega) (by omega)]
  simp only [bd_some]
  rw [decide_eq_false (show ¬ 1 + ((coverP d b).length : Int) < 0 by omega)]
  simp only [Bool.false_eq_true, if_false, bne_self_eq_false]
end Go.Vw
