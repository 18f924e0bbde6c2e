import Derived.Test.YtfdcdeahjejlmaaGreatDoorVqP10
set_option linter.unusedVariables false
namespace Go.Vw
open Go.RowKit Dat
def U_ : List UInt8 → Nat
 | [] => 0
 | x :: t => (t.takeWhile (· == x)).length + 1
theorem l_L : ∀ s : List UInt8, U_ s ≤ s.length
 | [] => Nat.le_refl _
 | x :: t => by
  have := (List.takeWhile_prefix (p := (· == x)) (l := t)).length_le
  simp only [U_, lC_]; omega
theorem l_M {s : List UInt8} (h : 0 < s.length) : 1 ≤ U_ s := by
 cases s with
 | nil => simp at h
 | cons x t => simp [U_]
theorem l_N {x : UInt8} : ∀ (t : List UInt8) (i : Nat), i < (t.takeWhile (· == x)).length → t[i]? = some x
 | [], i, h => by simp at h
 | y :: t, i, h => by
  by_cases hy : y = x
  ·subst hy
   simp only [List.takeWhile_cons, bQ_, fT_, lC_] at h
   cases i with
   | zero => rfl
   | succ i => simpa using l_N t i (by omega)
  ·simp [hy] at h
theorem l_O {x : UInt8} : ∀ (t : List UInt8) (y : UInt8), t[(t.takeWhile (· == x)).length]? = some y → y ≠ x
 | [], y, h => by simp at h
 | z :: t, y, h => by
  by_cases hz : z = x
  ·subst hz
   simp only [List.takeWhile_cons, bQ_, fT_, lC_, List.getElem?_cons_succ] at h
   exact l_O t y h
  ·simp only [List.takeWhile_cons, show (z == x) = false by simpa using hz, bF_, fF_, List.length_nil, List.getElem?_cons_zero, oI_] at h
   subst h; exact hz
theorem j_T {s : List UInt8} {x : UInt8} (hx : s[0]? = some x) {i : Nat} (hi : i < U_ s) : s[i]? = some x := by
 cases s with
 | nil => simp at hx
 | cons y t =>
  simp only [List.getElem?_cons_zero, oI_] at hx; subst hx
  cases i with
  | zero => rfl
  | succ i => simp only [U_] at hi; simpa using l_N t i (by omega)
theorem j_U {s : List UInt8} {x y : UInt8} (hx : s[0]? = some x) (hy : s[U_ s]? = some y) : y ≠ x := by
 cases s with
 | nil => simp at hx
 | cons z t =>
  simp only [List.getElem?_cons_zero, oI_] at hx; subst hx
  simp only [U_, List.getElem?_cons_succ] at hy
  exact l_O t y hy
theorem p_Z {s : List UInt8} : 3 ≤ U_ s ↔ ∃ x, s[0]? = some x ∧ s[1]? = some x ∧ s[2]? = some x := by
 constructor
 ·intro h
  cases s with
  | nil => simp [U_] at h
  | cons x t => exact ⟨x, rfl, j_T (s := x :: t) rfl (by omega), j_T (s := x :: t) rfl (by omega)⟩
 ·rintro ⟨x, h0, h1, h2⟩
  refine Nat.le_of_not_lt fun hlt => ?_
  have hp := l_M (s := s) (by cases s with | nil => simp at h0 | cons a t => simp)
  have : U_ s = 1 ∨ U_ s = 2 := by omega
  rcases this with h | h
  ·exact j_U h0 (h ▸ h1) rfl
  ·exact j_U h0 (h ▸ h2) rfl
def a_3 : Nat → List UInt8 → Nat
 | 0, _ => 0
 | _ + 1, [] => 0
 | m + 1, x :: t => if 3 ≤ U_ (x :: t) then 0 else a_3 m t + 1
theorem e_w : ∀ (m : Nat) (s : List UInt8), a_3 m s ≤ m ∧ a_3 m s ≤ s.length
 | 0, s => by simp [a_3]
 | m + 1, [] => by simp [a_3]
 | m + 1, x :: t => by
  have := e_w m t
  simp only [a_3, lC_]; split <;> omega
theorem l_P : ∀ (m : Nat) (s : List UInt8) (i : Nat), i < a_3 m s → U_ (s.drop i) < 3
 | 0, s, i, h => by simp [a_3] at h
 | m + 1, [], i, h => by simp [a_3] at h
 | m + 1, x :: t, i, h => by
  simp only [a_3] at h
  split at h
  ·simp at h
  ·rename_i hr
   cases i with
   | zero => simp only [List.drop_zero]; omega
   | succ i => simpa using l_P m t i (by omega)
theorem l_Q : ∀ (m : Nat) (s : List UInt8), a_3 m s < m → a_3 m s < s.length → 3 ≤ U_ (s.drop (a_3 m s))
 | 0, s, h, _ => by omega
 | m + 1, [], _, h => by simp [a_3] at h
 | m + 1, x :: t, h, h2 => by
  simp only [a_3] at h h2 ⊢
  split at h
  ·rename_i hr; rw [iP_ hr]; simpa using hr
  ·rename_i hr
   rw [iN_ hr] at h2 ⊢
   simpa using l_Q m t (by omega) (by simp at h2; omega)
theorem h_y {m : Nat} {s : List UInt8} (hm : 0 < m) (h : 0 < s.length) (hr : ¬ 3 ≤ U_ s) : 1 ≤ a_3 m s := by
 cases s with
 | nil => simp at h
 | cons x t =>
  cases m with
  | zero => omega
  | succ m => simp only [a_3, iN_ hr]; omega
def d_v : Nat → List UInt8 → List UInt8
 | 0, _ => []
 | n + 1, s =>
  match s with
  | [] => []
  | x :: t => if 3 ≤ U_ (x :: t) then mkB (128 + (min (U_ (x :: t)) 127 : Nat)) :: x :: d_v n ((x :: t).drop (min (U_ (x :: t)) 127))
   else mkB (a_3 127 (x :: t) : Nat) :: ((x :: t).take (a_3 127 (x :: t)) ++ d_v n ((x :: t).drop (a_3 127 (x :: t))))
def b_D (s : List UInt8) : List UInt8 := d_v s.length s
def b_9 (s : List UInt8) : List UInt8 × Nat :=
 if 3 ≤ U_ s then ([mkB (128 + (min (U_ s) 127 : Nat)), s.getD 0 0], min (U_ s) 127) else (mkB (a_3 127 s : Nat) :: s.take (a_3 127 s), a_3 127 s)
theorem j_V {n : Nat} {s : List UInt8} (h : 0 < s.length) : d_v (n + 1) s = (b_9 s).1 ++ d_v n (s.drop (b_9 s).2) := by
 cases s with
 | nil => simp at h
 | cons x t =>
  simp only [d_v, b_9]
  split <;> simp
theorem h_z {s : List UInt8} (h : 0 < s.length) : 1 ≤ (b_9 s).2 ∧ (b_9 s).2 ≤ s.length := by
 unfold b_9
 have h1 := l_L s
 have h2 := e_w 127 s
 split
 ·simp only; omega
 ·rename_i hr
  have := h_y (m := 127) (by omega) h hr
  simp only; omega
theorem l_R {s : List UInt8} (h : 0 < s.length) : (b_9 s).1.length ≤ 2 * (b_9 s).2 := by
 unfold b_9
 have h2 := e_w 127 s
 split
 ·simp only [lC_, List.length_nil]; omega
 ·rename_i hr
  have := h_y (m := 127) (by omega) h hr
  simp only [lC_, List.length_take]; omega
theorem l_S : ∀ (n m : Nat) (s : List UInt8), s.length ≤ n → s.length ≤ m → d_v n s = d_v m s
 | 0, m, s, h, _ => by
  have : s = [] := List.eq_nil_of_length_eq_zero (by omega)
  subst this; cases m <;> rfl
 | n + 1, 0, s, _, h => by
  have : s = [] := List.eq_nil_of_length_eq_zero (by omega)
  subst this; rfl
 | n + 1, m + 1, s, h1, h2 => by
  by_cases h : 0 < s.length
  ·have hp := h_z h
   rw [j_V h, j_V h, l_S n m _ (by rw [List.length_drop]; omega) (by rw [List.length_drop]; omega)]
  ·have : s = [] := List.eq_nil_of_length_eq_zero (by omega)
   subst this; rfl
theorem j_W : b_D [] = [] := rfl
theorem l_T {s : List UInt8} (h : 0 < s.length) : b_D s = (b_9 s).1 ++ b_D (s.drop (b_9 s).2) := by
 have hp := h_z h
 unfold b_D
 obtain ⟨n, hn⟩ : ∃ n, s.length = n + 1 := ⟨s.length - 1, by omega⟩
 rw [hn, j_V h, l_S n _ _ (by rw [List.length_drop]; omega) (Nat.le_refl _)]
theorem l_U : ∀ (n : Nat) (s : List UInt8), s.length ≤ n → (b_D s).length ≤ 2 * s.length
 | 0, s, h => by
  have : s = [] := List.eq_nil_of_length_eq_zero (by omega)
  subst this; simp [j_W]
 | n + 1, s, h => by
  by_cases h0 : 0 < s.length
  ·have hp := h_z h0
   have hl := l_R h0
   have := l_U n (s.drop (b_9 s).2) (by rw [List.length_drop]; omega)
   rw [l_T h0, List.length_append]
   rw [List.length_drop] at this
   omega
  ·have : s = [] := List.eq_nil_of_length_eq_zero (by omega)
   subst this; simp [j_W]
def b_Y : Nat → List UInt8 → List UInt8 → Option (List UInt8)
 | 0, _, _ => none
 | n + 1, s, out =>
  match s with
  | [] => some out
  | c :: t =>
   if c = 0 ∨ c = 128 ∨ t = [] then none
   else if c.toNat < 128 then
    if t.length < c.toNat then none else if 1000 < (out ++ t.take c.toNat).length then none else b_Y n (t.drop c.toNat) (out ++ t.take c.toNat)
   else if 1000 < (out ++ List.replicate (c.toNat - 128) (t.getD 0 0)).length then none else b_Y n (t.drop 1) (out ++ List.replicate (c.toNat - 128) (t.getD 0 0))
def c_h (s : List UInt8) : Option (List UInt8) := b_Y (s.length + 1) s []
theorem q_0 : c_h [] = some [] := rfl
def b_E (s : List UInt8) : Option Nat :=
 match s[1]? with
 | none => none
 | some c => match s[c.toNat + 3]?, s[c.toNat + 4]? with
  | some h, some l => if c.toNat + 6 + (256 * h.toNat + l.toNat) ≤ s.length then some (c.toNat + 6 + (256 * h.toNat + l.toNat)) else none
  | _, _ => none
theorem j_X {s : List UInt8} {k : Nat} (h : b_E s = some k) : ∃ c hi lo, s[1]? = some c ∧ s[c.toNat + 3]? = some hi ∧ s[c.toNat + 4]? = some lo ∧ k = c.toNat + 6 + (256 * hi.toNat + lo.toNat) ∧ k ≤ s.length := by
 unfold b_E at h
 split at h
 ·cases h
 ·rename_i c hc
  split at h
  ·rename_i hi lo h1 h2
   split at h
   ·rename_i hk; cases h; exact ⟨c, hi, lo, hc, h1, h2, rfl, hk⟩
   ·cases h
  ·cases h
theorem l_V {s : List UInt8} {c hi lo : UInt8} (h1 : s[1]? = some c) (h2 : s[c.toNat + 3]? = some hi) (h3 : s[c.toNat + 4]? = some lo) (h : c.toNat + 6 + (256 * hi.toNat + lo.toNat) ≤ s.length) : b_E s = some (c.toNat + 6 + (256 * hi.toNat + lo.toNat)) := by
 unfold b_E; rw [h1]; simp only; rw [h2, h3]; simp only; rw [iP_ h]
theorem q_1 {s : List UInt8} {k m : Nat} (h : b_E s = some k) (hk : k ≤ m) : b_E (s.take m) = some k := by
 obtain ⟨c, hi, lo, h1, h2, h3, rfl, h4⟩ := j_X h
 refine l_V ?_ ?_ ?_ ?_
 ·rw [List.getElem?_take, iP_ (by omega)]; exact h1
 ·rw [List.getElem?_take, iP_ (by omega)]; exact h2
 ·rw [List.getElem?_take, iP_ (by omega)]; exact h3
 ·rw [List.length_take]; omega
theorem q_2 {s : List UInt8} {k m : Nat} (h : b_E (s.take m) = some k) : b_E s = some k ∧ k ≤ m := by
 obtain ⟨c, hi, lo, h1, h2, h3, rfl, h4⟩ := j_X h
 have get : ∀ {i : Nat} {x : UInt8}, (s.take m)[i]? = some x → s[i]? = some x := by
  intro i x hx
  rw [List.getElem?_take] at hx
  split at hx
  ·exact hx
  ·cases hx
 rw [List.length_take] at h4
 exact ⟨l_V (get h1) (get h2) (get h3) (by omega), by omega⟩
end Go.Vw
