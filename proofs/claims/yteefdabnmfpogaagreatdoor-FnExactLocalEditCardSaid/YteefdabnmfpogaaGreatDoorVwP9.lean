import Derived.Test.YteefdabnmfpogaaGreatDoorVwP8
namespace Go.Vw
open Go.RowKit Dat
theorem mkB_digit (x : Nat) : mkB (iadd 48 ((x % 10 : Nat) : Int)) = UInt8.ofNat (48 + x % 10) := by
 have : x % 10 = 0 ∨ x % 10 = 1 ∨ x % 10 = 2 ∨ x % 10 = 3 ∨ x % 10 = 4 ∨ x % 10 = 5 ∨ x % 10 = 6 ∨ x % 10 = 7 ∨ x % 10 = 8 ∨ x % 10 = 9 := by omega
 rcases this with h | h | h | h | h | h | h | h | h | h <;> rw [h] <;> decide
theorem dec_loop : ∀ (k x : Nat), x < 10 ^ k → 0 < x → x ≤ 4611686018427387904 → ∀ (s : Str) (n : Nat), k + 1 ≤ n → s.b.length + k ≤ 1000 →
  iter (σ := Str × Int) (ρ := Str) (un2 fun x64 x66 => if (x66 != 0) = true then bd (α := Int) (if (decide ((irem x66 10) < 0)) = true then some (ineg (irem x66 10)) else some (irem x66 10)) (fun x102 => bd (cat (⟨[mkB (iadd 48 x102)]⟩ : Str) x64) fun x119 => some (.next (x119, iquo x66 10))) else some (.brk (x64, x66))) n (s, (x : Int)) = some (.inl (⟨Lib.decDigits x ++ s.b⟩, 0))
 | 0, x, h, h0, _, _, _, _, _ => by simp at h; omega
 | k + 1, x, h, h0, hb, s, n, hn, hs => by
  obtain ⟨m, rfl⟩ : ∃ m, n = m + 1 := ⟨n - 1, by omega⟩
  unfold iter
  simp only [un2]
  rw [show ((x : Int) != 0) = true by simp; omega, irem_of (by omega), iquo_of (by omega) (by omega) (by omega), decide_eq_false (show ¬ (x : Int) % 10 < 0 by omega)]
  simp only [if_true, Bool.false_eq_true, if_false, bd_some]
  rw [show (x : Int) % 10 = ((x % 10 : Nat) : Int) by omega, mkB_digit, cat_of (by rw [LIMv]; simp; omega), bd_some, show (x : Int) / 10 = ((x / 10 : Nat) : Int) by omega]
  simp only
  by_cases h10 : x < 10
  ·rw [show x / 10 = 0 by omega, show x % 10 = x by omega]
   obtain ⟨m', rfl⟩ : ∃ m', m = m' + 1 := ⟨m - 1, by omega⟩
   rw [Lib.decDigits, dif_pos h10]
   rfl
  ·rw [dec_loop k (x / 10) (by rw [Nat.pow_succ] at h; omega) (by omega) (by omega) _ m (by omega) (by simp; omega)]
   rw [Lib.decDigits.eq_1 x, dif_neg h10]
   simp
theorem spec_FormatInt {n : Nat} (hn : 30 ≤ n) (i : Nat) (hi : i ≤ 1000000000) : M_spec_FormatInt n i = some ⟨Lib.itoa i⟩ := by
 unfold M_spec_FormatInt Lib.itoa
 rw [if_neg (show ¬ (i : Int) < 0 by omega)]
 by_cases h0 : i = 0
 ·subst h0
  rw [show ((((0 : Nat) : Int)).toNat) = 0 from rfl, Lib.decDigits, dif_pos (by omega)]
  rfl
 ·rw [show ((i : Int) == 0) = false by simp; omega]
  simp only [Bool.false_eq_true, if_false]
  rw [dec_loop 20 i (by omega) (by omega) (by omega) ⟨[]⟩ n (by omega) (by simp), decide_eq_false (show ¬ (i : Int) < 0 by omega)]
  simp
def stepP (r : Rule) (i : Nat) : Str :=
 if r.kind == 5 then ⟨Lib.itoa i⟩
 else if r.kind == 6 && decide (i < r.names.length) then r.names.getD i ⟨[]⟩
 else if r.kind == 7 && i == 0 then ⟨[42]⟩
 else if r.kind == 8 && i == 0 then ⟨[63]⟩
 else if r.kind == 9 && i == 0 then ⟨[43]⟩
 else ⟨[]⟩
theorem spec_l18Step {n : Nat} (hn : 30 ≤ n) (r : Rule) (i : Nat) (hi : i ≤ 1000000000) : M_spec_l18Step n r i = some (stepP r i) := by
 unfold M_spec_l18Step stepP
 rw [spec_FormatInt hn i hi]
 rw [int_eq0]
 cases (r.kind == 5)
 ·cases (r.kind == 6)
  ·cases (r.kind == 7) <;> cases (r.kind == 8) <;> cases (r.kind == 9) <;> cases (i == 0) <;> rfl
  ·by_cases h : i < r.names.length
   ·rw [decide_eq_true h, decide_eq_true (show (i : Int) < (r.names.length : Int) by omega), idx_get h, getD_get h]; rfl
   ·rw [decide_eq_false h, decide_eq_false (show ¬ (i : Int) < (r.names.length : Int) by omega)]
    cases (r.kind == 7) <;> cases (r.kind == 8) <;> cases (r.kind == 9) <;> cases (i == 0) <;> rfl
 ·rfl
section
variable {d : Desc} {b : List UInt8}
end
end Go.Vw
