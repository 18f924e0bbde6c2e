import Derived.Test.YtfdcdeahjejlmaaGreatDoorVqP10
set_option linter.unusedVariables false
namespace Go.Vw
open Go.RowKit Dat
def T_ : List UInt8 → Nat
 | [] => 0
 | x :: t => (t.takeWhile (· == x)).length + 1
theorem l_e : ∀ s : List UInt8, T_ s ≤ s.length
 | [] => Nat.le_refl _
 | x :: t => by
  have := (List.takeWhile_prefix (p := (· == x)) (l := t)).length_le
  simp only [T_, lC_]; omega
theorem l_f {s : List UInt8} (h : 0 < s.length) : 1 ≤ T_ s := by
 cases s with
 | nil => simp at h
 | cons x t => simp [T_]
theorem l_g {x : UInt8} : ∀ (t : List UInt8) (i : Nat), i < (t.takeWhile (· == x)).length → t[i]? = some x
 | [], i, h => by simp at h
 | y :: t, i, h => by
  by_cases hy : y = x
  ·subst hy
   simp only [List.takeWhile_cons, bQ_, fT_, lC_] at h
   cases i with
   | zero => rfl
   | succ i => simpa using l_g t i (by omega)
  ·simp [List.takeWhile_cons, hy] at h
theorem l_h {x : UInt8} : ∀ (t : List UInt8) (y : UInt8), t[(t.takeWhile (· == x)).length]? = some y → y ≠ x
 | [], y, h => by simp at h
 | z :: t, y, h => by
  by_cases hz : z = x
  ·subst hz
   simp only [List.takeWhile_cons, bQ_, fT_, lC_, List.getElem?_cons_succ] at h
   exact l_h t y h
  ·simp only [List.takeWhile_cons, show (z == x) = false by simpa using hz, bF_, fF_, List.length_nil, List.getElem?_cons_zero, oI_] at h
   subst h; exact hz
theorem j_e {s : List UInt8} {x : UInt8} (hx : s[0]? = some x) {i : Nat} (hi : i < T_ s) : s[i]? = some x := by
 cases s with
 | nil => simp at hx
 | cons y t =>
  simp only [List.getElem?_cons_zero, oI_] at hx; subst hx
  cases i with
  | zero => rfl
  | succ i => simp only [T_] at hi; simpa using l_g t i (by omega)
theorem j_f {s : List UInt8} {x y : UInt8} (hx : s[0]? = some x) (hy : s[T_ s]? = some y) : y ≠ x := by
 cases s with
 | nil => simp at hx
 | cons z t =>
  simp only [List.getElem?_cons_zero, oI_] at hx; subst hx
  simp only [T_, List.getElem?_cons_succ] at hy
  exact l_h t y hy
theorem o_K {s : List UInt8} : 3 ≤ T_ s ↔ ∃ x, s[0]? = some x ∧ s[1]? = some x ∧ s[2]? = some x := by
 constructor
 ·intro h
  cases s with
  | nil => simp [T_] at h
  | cons x t => exact ⟨x, rfl, j_e (s := x :: t) rfl (by omega), j_e (s := x :: t) rfl (by omega)⟩
 ·rintro ⟨x, h0, h1, h2⟩
  refine Nat.le_of_not_lt fun hlt => ?_
  have hp := l_f (s := s) (by cases s with | nil => simp at h0 | cons a t => simp)
  have : T_ s = 1 ∨ T_ s = 2 := by omega
  rcases this with h | h
  ·exact j_f h0 (h ▸ h1) rfl
  ·exact j_f h0 (h ▸ h2) rfl
def a_1 : Nat → List UInt8 → Nat
 | 0, _ => 0
 | _ + 1, [] => 0
 | m + 1, x :: t => if 3 ≤ T_ (x :: t) then 0 else a_1 m t + 1
theorem e_h : ∀ (m : Nat) (s : List UInt8), a_1 m s ≤ m ∧ a_1 m s ≤ s.length
 | 0, s => by simp [a_1]
 | m + 1, [] => by simp [a_1]
 | m + 1, x :: t => by
  have := e_h m t
  simp only [a_1, lC_]; split <;> omega
theorem l_i : ∀ (m : Nat) (s : List UInt8) (i : Nat), i < a_1 m s → T_ (s.drop i) < 3
 | 0, s, i, h => by simp [a_1] at h
 | m + 1, [], i, h => by simp [a_1] at h
 | m + 1, x :: t, i, h => by
  simp only [a_1] at h
  split at h
  ·simp at h
  ·rename_i hr
   cases i with
   | zero => simp only [List.drop_zero]; omega
   | succ i => simpa using l_i m t i (by omega)
theorem l_j : ∀ (m : Nat) (s : List UInt8), a_1 m s < m → a_1 m s < s.length → 3 ≤ T_ (s.drop (a_1 m s))
 | 0, s, h, _ => by omega
 | m + 1, [], _, h => by simp [a_1] at h
 | m + 1, x :: t, h, h2 => by
  simp only [a_1] at h h2 ⊢
  split at h
  ·rename_i hr; rw [iP_ hr]; simpa using hr
  ·rename_i hr
   rw [iN_ hr] at h2 ⊢
   simpa using l_j m t (by omega) (by simp at h2; omega)
theorem h_e {m : Nat} {s : List UInt8} (hm : 0 < m) (h : 0 < s.length) (hr : ¬ 3 ≤ T_ s) : 1 ≤ a_1 m s := by
 cases s with
 | nil => simp at h
 | cons x t =>
  cases m with
  | zero => omega
  | succ m => simp only [a_1, iN_ hr]; omega
def d_l : Nat → List UInt8 → List UInt8
 | 0, _ => []
 | n + 1, s =>
  match s with
  | [] => []
  | x :: t => if 3 ≤ T_ (x :: t) then mkB (128 + (min (T_ (x :: t)) 127 : Nat)) :: x :: d_l n ((x :: t).drop (min (T_ (x :: t)) 127))
   else mkB (a_1 127 (x :: t) : Nat) :: ((x :: t).take (a_1 127 (x :: t)) ++ d_l n ((x :: t).drop (a_1 127 (x :: t))))
def b_w (s : List UInt8) : List UInt8 := d_l s.length s
def b_6 (s : List UInt8) : List UInt8 × Nat :=
 if 3 ≤ T_ s then ([mkB (128 + (min (T_ s) 127 : Nat)), s.getD 0 0], min (T_ s) 127) else (mkB (a_1 127 s : Nat) :: s.take (a_1 127 s), a_1 127 s)
theorem j_g {n : Nat} {s : List UInt8} (h : 0 < s.length) : d_l (n + 1) s = (b_6 s).1 ++ d_l n (s.drop (b_6 s).2) := by
 cases s with
 | nil => simp at h
 | cons x t =>
  simp only [d_l, b_6]
  split <;> simp
theorem h_f {s : List UInt8} (h : 0 < s.length) : 1 ≤ (b_6 s).2 ∧ (b_6 s).2 ≤ s.length := by
 unfold b_6
 have h1 := l_e s
 have h2 := e_h 127 s
 split
 ·simp only; omega
 ·rename_i hr
  have := h_e (m := 127) (by omega) h hr
  simp only; omega
theorem l_k {s : List UInt8} (h : 0 < s.length) : (b_6 s).1.length ≤ 2 * (b_6 s).2 := by
 unfold b_6
 have h2 := e_h 127 s
 split
 ·simp only [lC_, List.length_nil]; omega
 ·rename_i hr
  have := h_e (m := 127) (by omega) h hr
  simp only [lC_, List.length_take]; omega
theorem l_l : ∀ (n m : Nat) (s : List UInt8), s.length ≤ n → s.length ≤ m → d_l n s = d_l m s
 | 0, m, s, h, _ => by
  have : s = [] := List.eq_nil_of_length_eq_zero (by omega)
  subst this; cases m <;> rfl
 | n + 1, 0, s, _, h => by
  have : s = [] := List.eq_nil_of_length_eq_zero (by omega)
  subst this; rfl
 | n + 1, m + 1, s, h1, h2 => by
  by_cases h : 0 < s.length
  ·have hp := h_f h
   rw [j_g h, j_g h, l_l n m _ (by rw [List.length_drop]; omega) (by rw [List.length_drop]; omega)]
  ·have : s = [] := List.eq_nil_of_length_eq_zero (by omega)
   subst this; rfl
theorem j_h : b_w [] = [] := rfl
theorem l_m {s : List UInt8} (h : 0 < s.length) : b_w s = (b_6 s).1 ++ b_w (s.drop (b_6 s).2) := by
 have hp := h_f h
 unfold b_w
 obtain ⟨n, hn⟩ : ∃ n, s.length = n + 1 := ⟨s.length - 1, by omega⟩
 rw [hn, j_g h, l_l n _ _ (by rw [List.length_drop]; omega) (Nat.le_refl _)]
theorem l_n : ∀ (n : Nat) (s : List UInt8), s.length ≤ n → (b_w s).length ≤ 2 * s.length
 | 0, s, h => by
  have : s = [] := List.eq_nil_of_length_eq_zero (by omega)
  subst this; simp [j_h]
 | n + 1, s, h => by
  by_cases h0 : 0 < s.length
  ·have hp := h_f h0
   have hl := l_k h0
   have := l_n n (s.drop (b_6 s).2) (by rw [List.length_drop]; omega)
   rw [l_m h0, List.length_append]
   rw [List.length_drop] at this
   omega
  ·have : s = [] := List.eq_nil_of_length_eq_zero (by omega)
   subst this; simp [j_h]
def b_Q : Nat → List UInt8 → List UInt8 → Option (List UInt8)
 | 0, _, _ => none
 | n + 1, s, out =>
  match s with
  | [] => some out
  | c :: t =>
   if c = 0 ∨ c = 128 ∨ t = [] then none
   else if c.toNat < 128 then
    if t.length < c.toNat then none else if 1000 < (out ++ t.take c.toNat).length then none else b_Q n (t.drop c.toNat) (out ++ t.take c.toNat)
   else if 1000 < (out ++ List.replicate (c.toNat - 128) (t.getD 0 0)).length then none else b_Q n (t.drop 1) (out ++ List.replicate (c.toNat - 128) (t.getD 0 0))
def c_a (s : List UInt8) : Option (List UInt8) := b_Q (s.length + 1) s []
theorem o_L : c_a [] = some [] := rfl
def b_x (s : List UInt8) : Option Nat :=
 match s[1]? with
 | none => none
 | some c => match s[c.toNat + 3]?, s[c.toNat + 4]? with
  | some h, some l => if c.toNat + 6 + (256 * h.toNat + l.toNat) ≤ s.length then some (c.toNat + 6 + (256 * h.toNat + l.toNat)) else none
  | _, _ => none
theorem j_i {s : List UInt8} {k : Nat} (h : b_x s = some k) : ∃ c hi lo, s[1]? = some c ∧ s[c.toNat + 3]? = some hi ∧ s[c.toNat + 4]? = some lo ∧ k = c.toNat + 6 + (256 * hi.toNat + lo.toNat) ∧ k ≤ s.length := by
 unfold b_x at h
 split at h
 ·cases h
 ·rename_i c hc
  split at h
  ·rename_i hi lo h1 h2
   split at h
   ·rename_i hk; cases h; exact ⟨c, hi, lo, hc, h1, h2, rfl, hk⟩
   ·cases h
  ·cases h
theorem l_o {s : List UInt8} {c hi lo : UInt8} (h1 : s[1]? = some c) (h2 : s[c.toNat + 3]? = some hi) (h3 : s[c.toNat + 4]? = some lo) (h : c.toNat + 6 + (256 * hi.toNat + lo.toNat) ≤ s.length) : b_x s = some (c.toNat + 6 + (256 * hi.toNat + lo.toNat)) := by
 unfold b_x; rw [h1]; simp only; rw [h2, h3]; simp only; rw [iP_ h]
theorem o_M {s : List UInt8} {k m : Nat} (h : b_x s = some k) (hk : k ≤ m) : b_x (s.take m) = some k := by
 obtain ⟨c, hi, lo, h1, h2, h3, rfl, h4⟩ := j_i h
 refine l_o ?_ ?_ ?_ ?_
 ·rw [List.getElem?_take, iP_ (by omega)]; exact h1
 ·rw [List.getElem?_take, iP_ (by omega)]; exact h2
 ·rw [List.getElem?_take, iP_ (by omega)]; exact h3
 ·rw [List.length_take]; omega
theorem o_N {s : List UInt8} {k m : Nat} (h : b_x (s.take m) = some k) : b_x s = some k ∧ k ≤ m := by
 obtain ⟨c, hi, lo, h1, h2, h3, rfl, h4⟩ := j_i h
 have get : ∀ {i : Nat} {x : UInt8}, (s.take m)[i]? = some x → s[i]? = some x := by
  intro i x hx
  rw [List.getElem?_take] at hx
  split at hx
  ·exact hx
  ·cases hx
 rw [List.length_take] at h4
 exact ⟨l_o (get h1) (get h2) (get h3) (by omega), by omega⟩
end Go.Vw
