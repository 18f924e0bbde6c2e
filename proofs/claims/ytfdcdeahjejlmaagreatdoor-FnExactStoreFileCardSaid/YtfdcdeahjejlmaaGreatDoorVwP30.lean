import Derived.Test.YtfdcdeahjejlmaaGreatDoorVwP10
namespace Go.Vw
open Go.RowKit Dat
def runL : List UInt8 → Nat
 | [] => 0
 | x :: t => (t.takeWhile (· == x)).length + 1
theorem runL_le : ∀ s : List UInt8, runL s ≤ s.length
 | [] => Nat.le_refl _
 | x :: t => by
  have := (List.takeWhile_prefix (p := (· == x)) (l := t)).length_le
  simp only [runL, lC_]; omega
theorem runL_pos {s : List UInt8} (h : 0 < s.length) : 1 ≤ runL s := by
 cases s with
 | nil => simp at h
 | cons x t => simp [runL]
theorem tw_get {x : UInt8} : ∀ (t : List UInt8) (i : Nat), i < (t.takeWhile (· == x)).length → t[i]? = some x
 | [], i, h => by simp at h
 | y :: t, i, h => by
  by_cases hy : y = x
  ·subst hy
   simp only [List.takeWhile_cons, bQ_, fT_, lC_] at h
   cases i with
   | zero => rfl
   | succ i => simpa using tw_get t i (by omega)
  ·simp [List.takeWhile_cons, hy] at h
theorem tw_end {x : UInt8} : ∀ (t : List UInt8) (y : UInt8), t[(t.takeWhile (· == x)).length]? = some y → y ≠ x
 | [], y, h => by simp at h
 | z :: t, y, h => by
  by_cases hz : z = x
  ·subst hz
   simp only [List.takeWhile_cons, bQ_, fT_, lC_, List.getElem?_cons_succ] at h
   exact tw_end t y h
  ·simp only [List.takeWhile_cons, show (z == x) = false by simpa using hz, bF_, fF_, List.length_nil, List.getElem?_cons_zero, oI_] at h
   subst h; exact hz
theorem run_get {s : List UInt8} {x : UInt8} (hx : s[0]? = some x) {i : Nat} (hi : i < runL s) : s[i]? = some x := by
 cases s with
 | nil => simp at hx
 | cons y t =>
  simp only [List.getElem?_cons_zero, oI_] at hx; subst hx
  cases i with
  | zero => rfl
  | succ i => simp only [runL] at hi; simpa using tw_get t i (by omega)
theorem run_end {s : List UInt8} {x y : UInt8} (hx : s[0]? = some x) (hy : s[runL s]? = some y) : y ≠ x := by
 cases s with
 | nil => simp at hx
 | cons z t =>
  simp only [List.getElem?_cons_zero, oI_] at hx; subst hx
  simp only [runL, List.getElem?_cons_succ] at hy
  exact tw_end t y hy
theorem runL_three {s : List UInt8} : 3 ≤ runL s ↔ ∃ x, s[0]? = some x ∧ s[1]? = some x ∧ s[2]? = some x := by
 constructor
 ·intro h
  cases s with
  | nil => simp [runL] at h
  | cons x t => exact ⟨x, rfl, run_get (s := x :: t) rfl (by omega), run_get (s := x :: t) rfl (by omega)⟩
 ·rintro ⟨x, h0, h1, h2⟩
  refine Nat.le_of_not_lt fun hlt => ?_
  have hp := runL_pos (s := s) (by cases s with | nil => simp at h0 | cons a t => simp)
  have : runL s = 1 ∨ runL s = 2 := by omega
  rcases this with h | h
  ·exact run_end h0 (h ▸ h1) rfl
  ·exact run_end h0 (h ▸ h2) rfl
def litL : Nat → List UInt8 → Nat
 | 0, _ => 0
 | _ + 1, [] => 0
 | m + 1, x :: t => if 3 ≤ runL (x :: t) then 0 else litL m t + 1
theorem litL_le : ∀ (m : Nat) (s : List UInt8), litL m s ≤ m ∧ litL m s ≤ s.length
 | 0, s => by simp [litL]
 | m + 1, [] => by simp [litL]
 | m + 1, x :: t => by
  have := litL_le m t
  simp only [litL, lC_]; split <;> omega
theorem litL_not : ∀ (m : Nat) (s : List UInt8) (i : Nat), i < litL m s → runL (s.drop i) < 3
 | 0, s, i, h => by simp [litL] at h
 | m + 1, [], i, h => by simp [litL] at h
 | m + 1, x :: t, i, h => by
  simp only [litL] at h
  split at h
  ·simp at h
  ·rename_i hr
   cases i with
   | zero => simp only [List.drop_zero]; omega
   | succ i => simpa using litL_not m t i (by omega)
theorem litL_end : ∀ (m : Nat) (s : List UInt8), litL m s < m → litL m s < s.length → 3 ≤ runL (s.drop (litL m s))
 | 0, s, h, _ => by omega
 | m + 1, [], _, h => by simp [litL] at h
 | m + 1, x :: t, h, h2 => by
  simp only [litL] at h h2 ⊢
  split at h
  ·rename_i hr; rw [iP_ hr]; simpa using hr
  ·rename_i hr
   rw [iN_ hr] at h2 ⊢
   simpa using litL_end m t (by omega) (by simp at h2; omega)
theorem litL_pos {m : Nat} {s : List UInt8} (hm : 0 < m) (h : 0 < s.length) (hr : ¬ 3 ≤ runL s) : 1 ≤ litL m s := by
 cases s with
 | nil => simp at h
 | cons x t =>
  cases m with
  | zero => omega
  | succ m => simp only [litL, iN_ hr]; omega
def packF : Nat → List UInt8 → List UInt8
 | 0, _ => []
 | n + 1, s =>
  match s with
  | [] => []
  | x :: t => if 3 ≤ runL (x :: t) then mkB (128 + (min (runL (x :: t)) 127 : Nat)) :: x :: packF n ((x :: t).drop (min (runL (x :: t)) 127))
   else mkB (litL 127 (x :: t) : Nat) :: ((x :: t).take (litL 127 (x :: t)) ++ packF n ((x :: t).drop (litL 127 (x :: t))))
def packP (s : List UInt8) : List UInt8 := packF s.length s
def packStep (s : List UInt8) : List UInt8 × Nat :=
 if 3 ≤ runL s then ([mkB (128 + (min (runL s) 127 : Nat)), s.getD 0 0], min (runL s) 127) else (mkB (litL 127 s : Nat) :: s.take (litL 127 s), litL 127 s)
theorem packF_step {n : Nat} {s : List UInt8} (h : 0 < s.length) : packF (n + 1) s = (packStep s).1 ++ packF n (s.drop (packStep s).2) := by
 cases s with
 | nil => simp at h
 | cons x t =>
  simp only [packF, packStep]
  split <;> simp
theorem packStep_pos {s : List UInt8} (h : 0 < s.length) : 1 ≤ (packStep s).2 ∧ (packStep s).2 ≤ s.length := by
 unfold packStep
 have h1 := runL_le s
 have h2 := litL_le 127 s
 split
 ·simp only; omega
 ·rename_i hr
  have := litL_pos (m := 127) (by omega) h hr
  simp only; omega
theorem packStep_len {s : List UInt8} (h : 0 < s.length) : (packStep s).1.length ≤ 2 * (packStep s).2 := by
 unfold packStep
 have h2 := litL_le 127 s
 split
 ·simp only [lC_, List.length_nil]; omega
 ·rename_i hr
  have := litL_pos (m := 127) (by omega) h hr
  simp only [lC_, List.length_take]; omega
theorem packF_more : ∀ (n m : Nat) (s : List UInt8), s.length ≤ n → s.length ≤ m → packF n s = packF m s
 | 0, m, s, h, _ => by
  have : s = [] := List.eq_nil_of_length_eq_zero (by omega)
  subst this; cases m <;> rfl
 | n + 1, 0, s, _, h => by
  have : s = [] := List.eq_nil_of_length_eq_zero (by omega)
  subst this; rfl
 | n + 1, m + 1, s, h1, h2 => by
  by_cases h : 0 < s.length
  ·have hp := packStep_pos h
   rw [packF_step h, packF_step h, packF_more n m _ (by rw [List.length_drop]; omega) (by rw [List.length_drop]; omega)]
  ·have : s = [] := List.eq_nil_of_length_eq_zero (by omega)
   subst this; rfl
theorem packP_nil : packP [] = [] := rfl
theorem packP_step {s : List UInt8} (h : 0 < s.length) : packP s = (packStep s).1 ++ packP (s.drop (packStep s).2) := by
 have hp := packStep_pos h
 unfold packP
 obtain ⟨n, hn⟩ : ∃ n, s.length = n + 1 := ⟨s.length - 1, by omega⟩
 rw [hn, packF_step h, packF_more n _ _ (by rw [List.length_drop]; omega) (Nat.le_refl _)]
theorem packP_len : ∀ (n : Nat) (s : List UInt8), s.length ≤ n → (packP s).length ≤ 2 * s.length
 | 0, s, h => by
  have : s = [] := List.eq_nil_of_length_eq_zero (by omega)
  subst this; simp [packP_nil]
 | n + 1, s, h => by
  by_cases h0 : 0 < s.length
  ·have hp := packStep_pos h0
   have hl := packStep_len h0
   have := packP_len n (s.drop (packStep s).2) (by rw [List.length_drop]; omega)
   rw [packP_step h0, List.length_append]
   rw [List.length_drop] at this
   omega
  ·have : s = [] := List.eq_nil_of_length_eq_zero (by omega)
   subst this; simp [packP_nil]
def unpF : Nat → List UInt8 → List UInt8 → Option (List UInt8)
 | 0, _, _ => none
 | n + 1, s, out =>
  match s with
  | [] => some out
  | c :: t =>
   if c = 0 ∨ c = 128 ∨ t = [] then none
   else if c.toNat < 128 then
    if t.length < c.toNat then none else if 1000 < (out ++ t.take c.toNat).length then none else unpF n (t.drop c.toNat) (out ++ t.take c.toNat)
   else if 1000 < (out ++ List.replicate (c.toNat - 128) (t.getD 0 0)).length then none else unpF n (t.drop 1) (out ++ List.replicate (c.toNat - 128) (t.getD 0 0))
def unpP (s : List UInt8) : Option (List UInt8) := unpF (s.length + 1) s []
theorem unpP_nil : unpP [] = some [] := rfl
def lenS (s : List UInt8) : Option Nat :=
 match s[1]? with
 | none => none
 | some c => match s[c.toNat + 3]?, s[c.toNat + 4]? with
  | some h, some l => if c.toNat + 6 + (256 * h.toNat + l.toNat) ≤ s.length then some (c.toNat + 6 + (256 * h.toNat + l.toNat)) else none
  | _, _ => none
theorem lenS_le {s : List UInt8} {k : Nat} (h : lenS s = some k) : ∃ c hi lo, s[1]? = some c ∧ s[c.toNat + 3]? = some hi ∧ s[c.toNat + 4]? = some lo ∧ k = c.toNat + 6 + (256 * hi.toNat + lo.toNat) ∧ k ≤ s.length := by
 unfold lenS at h
 split at h
 ·cases h
 ·rename_i c hc
  split at h
  ·rename_i hi lo h1 h2
   split at h
   ·rename_i hk; cases h; exact ⟨c, hi, lo, hc, h1, h2, rfl, hk⟩
   ·cases h
  ·cases h
theorem lenS_mk {s : List UInt8} {c hi lo : UInt8} (h1 : s[1]? = some c) (h2 : s[c.toNat + 3]? = some hi) (h3 : s[c.toNat + 4]? = some lo) (h : c.toNat + 6 + (256 * hi.toNat + lo.toNat) ≤ s.length) : lenS s = some (c.toNat + 6 + (256 * hi.toNat + lo.toNat)) := by
 unfold lenS; rw [h1]; simp only; rw [h2, h3]; simp only; rw [iP_ h]
theorem lenS_take {s : List UInt8} {k m : Nat} (h : lenS s = some k) (hk : k ≤ m) : lenS (s.take m) = some k := by
 obtain ⟨c, hi, lo, h1, h2, h3, rfl, h4⟩ := lenS_le h
 refine lenS_mk ?_ ?_ ?_ ?_
 ·rw [List.getElem?_take, iP_ (by omega)]; exact h1
 ·rw [List.getElem?_take, iP_ (by omega)]; exact h2
 ·rw [List.getElem?_take, iP_ (by omega)]; exact h3
 ·rw [List.length_take]; omega
theorem lenS_of_take {s : List UInt8} {k m : Nat} (h : lenS (s.take m) = some k) : lenS s = some k ∧ k ≤ m := by
 obtain ⟨c, hi, lo, h1, h2, h3, rfl, h4⟩ := lenS_le h
 have get : ∀ {i : Nat} {x : UInt8}, (s.take m)[i]? = some x → s[i]? = some x := by
  intro i x hx
  rw [List.getElem?_take] at hx
  split at hx
  ·exact hx
  ·cases hx
 rw [List.length_take] at h4
 exact ⟨lenS_mk (get h1) (get h2) (get h3) (by omega), by omega⟩
end Go.Vw
