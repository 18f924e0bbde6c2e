import Derived.Test.YtfdcdeahjejlmaaGreatDoorVqP30
set_option linter.unusedVariables false
namespace Go.Vw
open Go.RowKit Dat
def a_P (r : p_) : Bool :=
 b_4 r.name && (decide (0 ≤ r.version) && decide (r.version ≤ 7)) && decide (r.data.length ≤ 400) && (r.kind == 1 || (r.kind == 2 && r.version == 0 && r.data.length == 0))
def d_t (r : p_) : List UInt8 :=
 [mkB r.kind, mkB (r.name.b.length : Int)] ++ r.name.b ++ [mkB r.version, mkB (c_4 .i64 ((b_G r.data).length : Int) 8), mkB ((b_G r.data).length : Int)] ++ b_G r.data
def a_o (r : p_) : List UInt8 := if a_P r = true then d_t r ++ [mkB (c_8 (d_t r))] else []
theorem e_1 {r : p_} (h : a_P r = true) : r.name.b.length ≤ 12 ∧ 0 ≤ r.version ∧ r.version ≤ 7 ∧ r.data.length ≤ 400 ∧ 1 ≤ r.kind ∧ r.kind ≤ 2 ∧ (b_G r.data).length ≤ 800 := by
 unfold a_P at h
 simp only [aE_, dE_, Bool.or_eq_true, beq_iff_eq] at h
 obtain ⟨⟨⟨h1, h2, h3⟩, h4⟩, h5⟩ := h
 have hp := m_6 _ _ (Nat.le_refl r.data.length)
 refine ⟨?_, h2, h3, h4, by omega, by omega, by omega⟩
 unfold b_4 at h1
 simp only [aE_, dE_] at h1
 exact h1.2.2
theorem p_V {r : p_} : a_o r ≠ [] ↔ a_P r = true := by
 unfold a_o
 constructor
 ·intro h
  by_cases hv : a_P r = true
  ·exact hv
  ·rw [iN_ hv] at h; exact absurd rfl h
 ·intro h; rw [iP_ h]; simp [d_t]
theorem m_8 {r : p_} (h : a_P r = true) : (a_o r).length = r.name.b.length + 6 + (b_G r.data).length := by
 unfold a_o; rw [iP_ h]; simp [d_t]; omega
def f_G (t : List UInt8) (data : List UInt8) : p_ :=
 ⟨byteI (t.getD 0 0), ⟨(t.drop 2).take (t.getD 1 0).toNat⟩, byteI (t.getD ((t.getD 1 0).toNat + 2) 0), data⟩
def k_4 (t : List UInt8) : List UInt8 := (t.drop ((t.getD 1 0).toNat + 5)).take (t.length - (t.getD 1 0).toNat - 6)
def h_R (t : List UInt8) : Option p_ :=
 match c_r (k_4 t) with
 | none => none
 | some data => if a_P (f_G t data) = true ∧ a_o (f_G t data) = t then some (f_G t data) else none
def a_p (s : List UInt8) : Option (p_ × Nat) :=
 match b_H s with
 | none => none
 | some k => match h_R (s.take k) with
  | none => none
  | some r => some (r, k)
theorem h_S {s : List UInt8} {r : p_} {k : Nat} (h : a_p s = some (r, k)) : b_H s = some k ∧ h_R (s.take k) = some r := by
 unfold a_p at h
 split at h
 ·cases h
 ·rename_i k' hk
  split at h
  ·cases h
  ·rename_i r' hr; cases h; exact ⟨hk, hr⟩
theorem f_H {s : List UInt8} {r : p_} {k : Nat} (h : a_p s = some (r, k)) : 6 ≤ k ∧ k ≤ s.length := by
 obtain ⟨c, hi, lo, _, _, _, hk, h2⟩ := k_3 (h_S h).1
 omega
theorem p_W {s : List UInt8} {r : p_} {k : Nat} (h : a_p s = some (r, k)) : a_P r = true ∧ a_o r = s.take k := by
 have := (h_S h).2
 unfold h_R at this
 split at this
 ·cases this
 ·split at this
  ·rename_i hv; cases this; exact hv
  ·cases this
theorem p_X {s : List UInt8} {r : p_} {k m : Nat} (h : a_p s = some (r, k)) (hk : k ≤ m) : a_p (s.take m) = some (r, k) := by
 obtain ⟨h1, h2⟩ := h_S h
 unfold a_p
 rw [p_T h1 hk]
 simp only
 rw [List.take_take, Nat.min_eq_left hk, h2]
theorem m_9 {s : List UInt8} {r : p_} {k m : Nat} (h : a_p (s.take m) = some (r, k)) : a_p s = some (r, k) ∧ k ≤ m := by
 obtain ⟨h1, h2⟩ := h_S h
 obtain ⟨h3, h4⟩ := p_U h1
 rw [List.take_take, Nat.min_eq_left h4] at h2
 refine ⟨?_, h4⟩
 unfold a_p; rw [h3]; simp only; rw [h2]
def d_b : Nat → List UInt8 → List p_ × Nat
 | 0, _ => ([], 0)
 | n + 1, s => match a_p s with
  | none => ([], 0)
  | some (r, k) => (r :: (d_b n (s.drop k)).1, k + (d_b n (s.drop k)).2)
def a_i (s : List UInt8) : List p_ × Nat := d_b s.length s
theorem m_a : ∀ (n m : Nat) (s : List UInt8), s.length ≤ n → s.length ≤ m → d_b n s = d_b m s
 | 0, 0, _, _, _ => rfl
 | 0, m + 1, s, h, _ => by
  have : s = [] := List.eq_nil_of_length_eq_zero (by omega)
  subst this; rfl
 | n + 1, 0, s, _, h => by
  have : s = [] := List.eq_nil_of_length_eq_zero (by omega)
  subst this; rfl
 | n + 1, m + 1, s, h1, h2 => by
  unfold d_b
  cases hd : a_p s with
  | none => rfl
  | some x =>
   obtain ⟨r, k⟩ := x
   have := f_H hd
   simp only
   rw [m_a n m (s.drop k) (by rw [List.length_drop]; omega) (by rw [List.length_drop]; omega)]
theorem e_y {s : List UInt8} (h : a_p s = none) : a_i s = ([], 0) := by
 unfold a_i
 cases hl : s.length with
 | zero => rfl
 | succ n => unfold d_b; rw [h]
theorem h_T {s : List UInt8} {r : p_} {k : Nat} (h : a_p s = some (r, k)) : a_i s = (r :: (a_i (s.drop k)).1, k + (a_i (s.drop k)).2) := by
 have hp := f_H h
 unfold a_i
 obtain ⟨n, hn⟩ : ∃ n, s.length = n + 1 := ⟨s.length - 1, by omega⟩
 rw [hn]
 conv => lhs; unfold d_b
 rw [h]
 simp only
 rw [m_a n (s.drop k).length _ (by rw [List.length_drop]; omega) (Nat.le_refl _)]
theorem f_I : ∀ (n : Nat) (s : List UInt8), s.length ≤ n → (a_i s).2 ≤ s.length ∧ 6 * (a_i s).1.length ≤ s.length ∧ ∀ r ∈ (a_i s).1, a_P r = true
 | 0, s, h => by
  have : s = [] := List.eq_nil_of_length_eq_zero (by omega)
  subst this; exact ⟨Nat.le_refl _, Nat.le_refl _, fun r hr => by cases hr⟩
 | n + 1, s, h => by
  cases hd : a_p s with
  | none => rw [e_y hd]; exact ⟨Nat.zero_le _, Nat.zero_le _, fun r hr => by cases hr⟩
  | some x =>
   obtain ⟨r, k⟩ := x
   have hp := f_H hd
   obtain ⟨h1, h2, h3⟩ := f_I n (s.drop k) (by rw [List.length_drop]; omega)
   rw [List.length_drop] at h1 h2
   rw [h_T hd]
   refine ⟨by simp only; omega, by simp only [lC_]; omega, fun x hx => ?_⟩
   rcases List.mem_cons.1 hx with rfl | hx
   ·exact (p_W hd).1
   ·exact h3 x hx
def c_s (r : p_) : t_ := ⟨r.name, r.version, r.data⟩
def c_a (l : List t_) (r : p_) : List t_ :=
 match l.findIdx? (fun f => f.name.b == r.name.b) with
 | some k => if r.kind = 1 then l.set k (c_s r) else l.eraseIdx k
 | none => if r.kind = 1 then l ++ [c_s r] else l
def b_x (s : List UInt8) : List t_ := (a_i s).1.foldl c_a []
def c_t (l : List t_) : Prop := (l.map (·.name.b)).Nodup
section
variable {l : List t_} {r : p_}
def a_U (r : p_) (x : t_) : List t_ := if (x.name.b != r.name.b) = true then [x] else if r.kind = 1 then [c_s r] else []
def sapR (l : List t_) (r : p_) : List t_ := l.flatMap (a_U r) ++ if r.kind = 1 ∧ (l.any fun f => f.name.b == r.name.b) = false then [c_s r] else []
theorem k_5 : ∀ {l : List t_}, (l.any fun f => f.name.b == r.name.b) = false → l.flatMap (a_U r) = l
 | [], _ => rfl
 | x :: t, h => by
  simp only [List.any_cons, Bool.or_eq_false_iff] at h
  have : a_U r x = [x] := by unfold a_U; rw [iP_ (by simpa using h.1)]
  rw [List.flatMap_cons, this, k_5 h.2]; rfl
theorem m_b {l : List t_} : (l.any fun f => f.name.b == r.name.b) = (l.findIdx? fun f => f.name.b == r.name.b).isSome := by
 induction l with
 | nil => rfl
 | cons x t ih =>
  rw [List.any_cons, List.findIdx?_cons, ih]
  cases x.name.b == r.name.b <;> simp
theorem m_c : ∀ {l : List t_} {k : Nat}, c_t l → (l.findIdx? fun f => f.name.b == r.name.b) = some k → l.flatMap (a_U r) = if r.kind = 1 then l.set k (c_s r) else l.eraseIdx k
 | [], k, _, h => by simp at h
 | x :: t, k, hn, h => by
  rw [List.findIdx?_cons] at h
  unfold c_t at hn
  simp only [List.map_cons, List.nodup_cons] at hn
  rw [List.flatMap_cons]
  cases hx : x.name.b == r.name.b with
  | true =>
   rw [hx] at h
   simp only [fT_, oI_] at h
   subst h
   have hx' : x.name.b = r.name.b := by simpa using hx
   have hnone : (t.any fun f => f.name.b == r.name.b) = false := by
    rw [List.any_eq_false]
    intro y hy hc
    have : y.name.b = x.name.b := by rw [hx']; simpa using hc
    exact hn.1 (this ▸ List.mem_map_of_mem hy)
   rw [k_5 hnone]
   unfold a_U
   rw [iN_ (by simp [hx'])]
   split <;> rfl
  | false =>
   rw [hx] at h
   simp only [bF_, fF_, Option.map_eq_some_iff] at h
   obtain ⟨j, hj, rfl⟩ := h
   have hs : a_U r x = [x] := by unfold a_U; rw [iP_ (by simpa using hx)]
   rw [hs, m_c hn.2 hj]
   split <;> rfl
theorem p_Y (hn : c_t l) : sapR l r = c_a l r := by
 unfold sapR c_a
 rw [m_b]
 cases h : l.findIdx? fun f => f.name.b == r.name.b with
 | none =>
  rw [k_5 (by rw [m_b, h]; rfl)]
  simp only [Option.isSome_none, and_true]
  split <;> simp
 | some k =>
  rw [m_c hn h]
  simp only [Option.isSome_some, Bool.true_eq_false, and_false, fF_, List.append_nil]
theorem p_Z (hn : c_t l) : c_t (c_a l r) := by
 unfold c_a
 cases h : l.findIdx? fun f => f.name.b == r.name.b with
 | none =>
  simp only
  split
  ·unfold c_t at *
   rw [List.map_append, List.nodup_append]
   refine ⟨hn, by simp, fun a ha b hb he => ?_⟩
   simp only [List.map_cons, List.map_nil, List.mem_singleton, c_s] at hb
   obtain ⟨x, hx, rfl⟩ := List.mem_map.1 ha
   have := List.findIdx?_eq_none_iff.1 h x hx
   rw [he, hb] at this; simp at this
  ·exact hn
 | some k =>
  obtain ⟨hk, hp, _⟩ := List.findIdx?_eq_some_iff_getElem.1 h
  simp only
  split
  ·unfold c_t at *
   have : (l.set k (c_s r)).map (·.name.b) = l.map (·.name.b) := by
    rw [List.map_set]
    have h2 : (l.map (·.name.b))[k]? = some (c_s r).name.b := by
     rw [List.getElem?_map, gG_ hk]
     simp only [Option.map_some, c_s]
     congr 1; simpa using hp
    apply List.ext_getElem?
    intro i
    by_cases hi : k = i
    ·subst hi
     rw [List.getElem?_set_self (by simpa using hk), h2]
    ·rw [List.getElem?_set_ne hi]
   rw [this]; exact hn
  ·unfold c_t at *
   exact hn.sublist (List.Sublist.map _ (List.eraseIdx_sublist l k))
theorem q_0 : (c_a l r).length ≤ l.length + 1 := by
 unfold c_a
 split <;> split
 ·rw [List.length_set]; omega
 ·rename_i k _ _; have := List.length_eraseIdx_le l k; omega
 ·simp
 ·omega
end
end Go.Vw
