import Derived.Test.YtfdcdeahjejlmaaGreatDoorVqP10
set_option linter.unusedVariables false
namespace Go.Vw
open Go.RowKit Dat
def Z_ : List UInt8 → Nat
 | [] => 0
 | x :: t => (t.takeWhile (· == x)).length + 1
theorem l_X : ∀ s : List UInt8, Z_ s ≤ s.length
 | [] => Nat.le_refl _
 | x :: t => by
  have := (List.takeWhile_prefix (p := (· == x)) (l := t)).length_le
  simp only [Z_, lC_]; omega
theorem l_Y {s : List UInt8} (h : 0 < s.length) : 1 ≤ Z_ s := by
 cases s with
 | nil => simp at h
 | cons x t => simp [Z_]
theorem l_Z {x : UInt8} : ∀ (t : List UInt8) (i : Nat), i < (t.takeWhile (· == x)).length → t[i]? = some x
 | [], i, h => by simp at h
 | y :: t, i, h => by
  by_cases hy : y = x
  ·subst hy
   simp only [List.takeWhile_cons, bQ_, fT_, lC_] at h
   cases i with
   | zero => rfl
   | succ i => simpa using l_Z t i (by omega)
  ·simp [List.takeWhile_cons, hy] at h
theorem m_0 {x : UInt8} : ∀ (t : List UInt8) (y : UInt8), t[(t.takeWhile (· == x)).length]? = some y → y ≠ x
 | [], y, h => by simp at h
 | z :: t, y, h => by
  by_cases hz : z = x
  ·subst hz
   simp only [List.takeWhile_cons, bQ_, fT_, lC_, List.getElem?_cons_succ] at h
   exact m_0 t y h
  ·simp only [List.takeWhile_cons, show (z == x) = false by simpa using hz, bF_, fF_, List.length_nil, List.getElem?_cons_zero, oI_] at h
   subst h; exact hz
theorem j_Z {s : List UInt8} {x : UInt8} (hx : s[0]? = some x) {i : Nat} (hi : i < Z_ s) : s[i]? = some x := by
 cases s with
 | nil => simp at hx
 | cons y t =>
  simp only [List.getElem?_cons_zero, oI_] at hx; subst hx
  cases i with
  | zero => rfl
  | succ i => simp only [Z_] at hi; simpa using l_Z t i (by omega)
theorem k_0 {s : List UInt8} {x y : UInt8} (hx : s[0]? = some x) (hy : s[Z_ s]? = some y) : y ≠ x := by
 cases s with
 | nil => simp at hx
 | cons z t =>
  simp only [List.getElem?_cons_zero, oI_] at hx; subst hx
  simp only [Z_, List.getElem?_cons_succ] at hy
  exact m_0 t y hy
theorem p_R {s : List UInt8} : 3 ≤ Z_ s ↔ ∃ x, s[0]? = some x ∧ s[1]? = some x ∧ s[2]? = some x := by
 constructor
 ·intro h
  cases s with
  | nil => simp [Z_] at h
  | cons x t => exact ⟨x, rfl, j_Z (s := x :: t) rfl (by omega), j_Z (s := x :: t) rfl (by omega)⟩
 ·rintro ⟨x, h0, h1, h2⟩
  refine Nat.le_of_not_lt fun hlt => ?_
  have hp := l_Y (s := s) (by cases s with | nil => simp at h0 | cons a t => simp)
  have : Z_ s = 1 ∨ Z_ s = 2 := by omega
  rcases this with h | h
  ·exact k_0 h0 (h ▸ h1) rfl
  ·exact k_0 h0 (h ▸ h2) rfl
def a_8 : Nat → List UInt8 → Nat
 | 0, _ => 0
 | _ + 1, [] => 0
 | m + 1, x :: t => if 3 ≤ Z_ (x :: t) then 0 else a_8 m t + 1
theorem e_x : ∀ (m : Nat) (s : List UInt8), a_8 m s ≤ m ∧ a_8 m s ≤ s.length
 | 0, s => by simp [a_8]
 | m + 1, [] => by simp [a_8]
 | m + 1, x :: t => by
  have := e_x m t
  simp only [a_8, lC_]; split <;> omega
theorem m_1 : ∀ (m : Nat) (s : List UInt8) (i : Nat), i < a_8 m s → Z_ (s.drop i) < 3
 | 0, s, i, h => by simp [a_8] at h
 | m + 1, [], i, h => by simp [a_8] at h
 | m + 1, x :: t, i, h => by
  simp only [a_8] at h
  split at h
  ·simp at h
  ·rename_i hr
   cases i with
   | zero => simp only [List.drop_zero]; omega
   | succ i => simpa using m_1 m t i (by omega)
theorem m_2 : ∀ (m : Nat) (s : List UInt8), a_8 m s < m → a_8 m s < s.length → 3 ≤ Z_ (s.drop (a_8 m s))
 | 0, s, h, _ => by omega
 | m + 1, [], _, h => by simp [a_8] at h
 | m + 1, x :: t, h, h2 => by
  simp only [a_8] at h h2 ⊢
  split at h
  ·rename_i hr; rw [iP_ hr]; simpa using hr
  ·rename_i hr
   rw [iN_ hr] at h2 ⊢
   simpa using m_2 m t (by omega) (by simp at h2; omega)
theorem h_P {m : Nat} {s : List UInt8} (hm : 0 < m) (h : 0 < s.length) (hr : ¬ 3 ≤ Z_ s) : 1 ≤ a_8 m s := by
 cases s with
 | nil => simp at h
 | cons x t =>
  cases m with
  | zero => omega
  | succ m => simp only [a_8, iN_ hr]; omega
def d_s : Nat → List UInt8 → List UInt8
 | 0, _ => []
 | n + 1, s =>
  match s with
  | [] => []
  | x :: t => if 3 ≤ Z_ (x :: t) then mkB (128 + (min (Z_ (x :: t)) 127 : Nat)) :: x :: d_s n ((x :: t).drop (min (Z_ (x :: t)) 127))
   else mkB (a_8 127 (x :: t) : Nat) :: ((x :: t).take (a_8 127 (x :: t)) ++ d_s n ((x :: t).drop (a_8 127 (x :: t))))
def b_G (s : List UInt8) : List UInt8 := d_s s.length s
def b_k (s : List UInt8) : List UInt8 × Nat :=
 if 3 ≤ Z_ s then ([mkB (128 + (min (Z_ s) 127 : Nat)), s.getD 0 0], min (Z_ s) 127) else (mkB (a_8 127 s : Nat) :: s.take (a_8 127 s), a_8 127 s)
theorem k_1 {n : Nat} {s : List UInt8} (h : 0 < s.length) : d_s (n + 1) s = (b_k s).1 ++ d_s n (s.drop (b_k s).2) := by
 cases s with
 | nil => simp at h
 | cons x t =>
  simp only [d_s, b_k]
  split <;> simp
theorem h_Q {s : List UInt8} (h : 0 < s.length) : 1 ≤ (b_k s).2 ∧ (b_k s).2 ≤ s.length := by
 unfold b_k
 have h1 := l_X s
 have h2 := e_x 127 s
 split
 ·simp only; omega
 ·rename_i hr
  have := h_P (m := 127) (by omega) h hr
  simp only; omega
theorem m_3 {s : List UInt8} (h : 0 < s.length) : (b_k s).1.length ≤ 2 * (b_k s).2 := by
 unfold b_k
 have h2 := e_x 127 s
 split
 ·simp only [lC_, List.length_nil]; omega
 ·rename_i hr
  have := h_P (m := 127) (by omega) h hr
  simp only [lC_, List.length_take]; omega
theorem m_4 : ∀ (n m : Nat) (s : List UInt8), s.length ≤ n → s.length ≤ m → d_s n s = d_s m s
 | 0, m, s, h, _ => by
  have : s = [] := List.eq_nil_of_length_eq_zero (by omega)
  subst this; cases m <;> rfl
 | n + 1, 0, s, _, h => by
  have : s = [] := List.eq_nil_of_length_eq_zero (by omega)
  subst this; rfl
 | n + 1, m + 1, s, h1, h2 => by
  by_cases h : 0 < s.length
  ·have hp := h_Q h
   rw [k_1 h, k_1 h, m_4 n m _ (by rw [List.length_drop]; omega) (by rw [List.length_drop]; omega)]
  ·have : s = [] := List.eq_nil_of_length_eq_zero (by omega)
   subst this; rfl
theorem k_2 : b_G [] = [] := rfl
theorem m_5 {s : List UInt8} (h : 0 < s.length) : b_G s = (b_k s).1 ++ b_G (s.drop (b_k s).2) := by
 have hp := h_Q h
 unfold b_G
 obtain ⟨n, hn⟩ : ∃ n, s.length = n + 1 := ⟨s.length - 1, by omega⟩
 rw [hn, k_1 h, m_4 n _ _ (by rw [List.length_drop]; omega) (Nat.le_refl _)]
theorem m_6 : ∀ (n : Nat) (s : List UInt8), s.length ≤ n → (b_G s).length ≤ 2 * s.length
 | 0, s, h => by
  have : s = [] := List.eq_nil_of_length_eq_zero (by omega)
  subst this; simp [k_2]
 | n + 1, s, h => by
  by_cases h0 : 0 < s.length
  ·have hp := h_Q h0
   have hl := m_3 h0
   have := m_6 n (s.drop (b_k s).2) (by rw [List.length_drop]; omega)
   rw [m_5 h0, List.length_append]
   rw [List.length_drop] at this
   omega
  ·have : s = [] := List.eq_nil_of_length_eq_zero (by omega)
   subst this; simp [k_2]
def c_9 : Nat → List UInt8 → List UInt8 → Option (List UInt8)
 | 0, _, _ => none
 | n + 1, s, out =>
  match s with
  | [] => some out
  | c :: t =>
   if c = 0 ∨ c = 128 ∨ t = [] then none
   else if c.toNat < 128 then
    if t.length < c.toNat then none else if 1000 < (out ++ t.take c.toNat).length then none else c_9 n (t.drop c.toNat) (out ++ t.take c.toNat)
   else if 1000 < (out ++ List.replicate (c.toNat - 128) (t.getD 0 0)).length then none else c_9 n (t.drop 1) (out ++ List.replicate (c.toNat - 128) (t.getD 0 0))
def c_r (s : List UInt8) : Option (List UInt8) := c_9 (s.length + 1) s []
theorem p_S : c_r [] = some [] := rfl
def b_H (s : List UInt8) : Option Nat :=
 match s[1]? with
 | none => none
 | some c => match s[c.toNat + 3]?, s[c.toNat + 4]? with
  | some h, some l => if c.toNat + 6 + (256 * h.toNat + l.toNat) ≤ s.length then some (c.toNat + 6 + (256 * h.toNat + l.toNat)) else none
  | _, _ => none
theorem k_3 {s : List UInt8} {k : Nat} (h : b_H s = some k) : ∃ c hi lo, s[1]? = some c ∧ s[c.toNat + 3]? = some hi ∧ s[c.toNat + 4]? = some lo ∧ k = c.toNat + 6 + (256 * hi.toNat + lo.toNat) ∧ k ≤ s.length := by
 unfold b_H at h
 split at h
 ·cases h
 ·rename_i c hc
  split at h
  ·rename_i hi lo h1 h2
   split at h
   ·rename_i hk; cases h; exact ⟨c, hi, lo, hc, h1, h2, rfl, hk⟩
   ·cases h
  ·cases h
theorem m_7 {s : List UInt8} {c hi lo : UInt8} (h1 : s[1]? = some c) (h2 : s[c.toNat + 3]? = some hi) (h3 : s[c.toNat + 4]? = some lo) (h : c.toNat + 6 + (256 * hi.toNat + lo.toNat) ≤ s.length) : b_H s = some (c.toNat + 6 + (256 * hi.toNat + lo.toNat)) := by
 unfold b_H; rw [h1]; simp only; rw [h2, h3]; simp only; rw [iP_ h]
theorem p_T {s : List UInt8} {k m : Nat} (h : b_H s = some k) (hk : k ≤ m) : b_H (s.take m) = some k := by
 obtain ⟨c, hi, lo, h1, h2, h3, rfl, h4⟩ := k_3 h
 refine m_7 ?_ ?_ ?_ ?_
 ·rw [List.getElem?_take, iP_ (by omega)]; exact h1
 ·rw [List.getElem?_take, iP_ (by omega)]; exact h2
 ·rw [List.getElem?_take, iP_ (by omega)]; exact h3
 ·rw [List.length_take]; omega
theorem p_U {s : List UInt8} {k m : Nat} (h : b_H (s.take m) = some k) : b_H s = some k ∧ k ≤ m := by
 obtain ⟨c, hi, lo, h1, h2, h3, rfl, h4⟩ := k_3 h
 have get : ∀ {i : Nat} {x : UInt8}, (s.take m)[i]? = some x → s[i]? = some x := by
  intro i x hx
  rw [List.getElem?_take] at hx
  split at hx
  ·exact hx
  ·cases hx
 rw [List.length_take] at h4
 exact ⟨m_7 (get h1) (get h2) (get h3) (by omega), by omega⟩
end Go.Vw
