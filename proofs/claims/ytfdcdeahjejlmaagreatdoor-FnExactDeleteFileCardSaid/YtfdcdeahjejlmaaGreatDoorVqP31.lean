import Derived.Test.YtfdcdeahjejlmaaGreatDoorVqP30
set_option linter.unusedVariables false
namespace Go.Vw
open Go.RowKit Dat
def a_s (r : o_) : Bool :=
 b_5 r.name && (decide (0 ≤ r.version) && decide (r.version ≤ 7)) && decide (r.data.length ≤ 400) && (r.kind == 1 || (r.kind == 2 && r.version == 0 && r.data.length == 0))
def d_w (r : o_) : List UInt8 :=
 [mkB r.kind, mkB (r.name.b.length : Int)] ++ r.name.b ++ [mkB r.version, mkB (c_4 .i64 ((b_H r.data).length : Int) 8), mkB ((b_H r.data).length : Int)] ++ b_H r.data
def a_r (r : o_) : List UInt8 := if a_s r = true then d_w r ++ [mkB (c_8 (d_w r))] else []
theorem e_1 {r : o_} (h : a_s r = true) : r.name.b.length ≤ 12 ∧ 0 ≤ r.version ∧ r.version ≤ 7 ∧ r.data.length ≤ 400 ∧ 1 ≤ r.kind ∧ r.kind ≤ 2 ∧ (b_H r.data).length ≤ 800 := by
 unfold a_s at h
 simp only [aE_, dE_, Bool.or_eq_true, beq_iff_eq] at h
 obtain ⟨⟨⟨h1, h2, h3⟩, h4⟩, h5⟩ := h
 have hp := m_g _ _ (Nat.le_refl r.data.length)
 refine ⟨?_, h2, h3, h4, by omega, by omega, by omega⟩
 unfold b_5 at h1
 simp only [aE_, dE_] at h1
 exact h1.2.2
theorem q_5 {r : o_} : a_r r ≠ [] ↔ a_s r = true := by
 unfold a_r
 constructor
 ·intro h
  by_cases hv : a_s r = true
  ·exact hv
  ·rw [iN_ hv] at h; exact absurd rfl h
 ·intro h; rw [iP_ h]; simp [d_w]
theorem m_i {r : o_} (h : a_s r = true) : (a_r r).length = r.name.b.length + 6 + (b_H r.data).length := by
 unfold a_r; rw [iP_ h]; simp [d_w]; omega
def f_K (t : List UInt8) (data : List UInt8) : o_ :=
 ⟨byteI (t.getD 0 0), ⟨(t.drop 2).take (t.getD 1 0).toNat⟩, byteI (t.getD ((t.getD 1 0).toNat + 2) 0), data⟩
def k_e (t : List UInt8) : List UInt8 := (t.drop ((t.getD 1 0).toNat + 5)).take (t.length - (t.getD 1 0).toNat - 6)
def h_Z (t : List UInt8) : Option o_ :=
 match c_s (k_e t) with
 | none => none
 | some data => if a_s (f_K t data) = true ∧ a_r (f_K t data) = t then some (f_K t data) else none
def a_t (s : List UInt8) : Option (o_ × Nat) :=
 match b_I s with
 | none => none
 | some k => match h_Z (s.take k) with
  | none => none
  | some r => some (r, k)
theorem i_0 {s : List UInt8} {r : o_} {k : Nat} (h : a_t s = some (r, k)) : b_I s = some k ∧ h_Z (s.take k) = some r := by
 unfold a_t at h
 split at h
 ·cases h
 ·rename_i k' hk
  split at h
  ·cases h
  ·rename_i r' hr; cases h; exact ⟨hk, hr⟩
theorem f_L {s : List UInt8} {r : o_} {k : Nat} (h : a_t s = some (r, k)) : 6 ≤ k ∧ k ≤ s.length := by
 obtain ⟨c, hi, lo, _, _, _, hk, h2⟩ := k_d (i_0 h).1
 omega
theorem q_6 {s : List UInt8} {r : o_} {k : Nat} (h : a_t s = some (r, k)) : a_s r = true ∧ a_r r = s.take k := by
 have := (i_0 h).2
 unfold h_Z at this
 split at this
 ·cases this
 ·split at this
  ·rename_i hv; cases this; exact hv
  ·cases this
theorem q_7 {s : List UInt8} {r : o_} {k m : Nat} (h : a_t s = some (r, k)) (hk : k ≤ m) : a_t (s.take m) = some (r, k) := by
 obtain ⟨h1, h2⟩ := i_0 h
 unfold a_t
 rw [q_3 h1 hk]
 simp only
 rw [List.take_take, Nat.min_eq_left hk, h2]
theorem m_j {s : List UInt8} {r : o_} {k m : Nat} (h : a_t (s.take m) = some (r, k)) : a_t s = some (r, k) ∧ k ≤ m := by
 obtain ⟨h1, h2⟩ := i_0 h
 obtain ⟨h3, h4⟩ := q_4 h1
 rw [List.take_take, Nat.min_eq_left h4] at h2
 refine ⟨?_, h4⟩
 unfold a_t; rw [h3]; simp only; rw [h2]
def d_d : Nat → List UInt8 → List o_ × Nat
 | 0, _ => ([], 0)
 | n + 1, s => match a_t s with
  | none => ([], 0)
  | some (r, k) => (r :: (d_d n (s.drop k)).1, k + (d_d n (s.drop k)).2)
def a_j (s : List UInt8) : List o_ × Nat := d_d s.length s
theorem m_k : ∀ (n m : Nat) (s : List UInt8), s.length ≤ n → s.length ≤ m → d_d n s = d_d m s
 | 0, 0, _, _, _ => rfl
 | 0, m + 1, s, h, _ => by
  have : s = [] := List.eq_nil_of_length_eq_zero (by omega)
  subst this; rfl
 | n + 1, 0, s, _, h => by
  have : s = [] := List.eq_nil_of_length_eq_zero (by omega)
  subst this; rfl
 | n + 1, m + 1, s, h1, h2 => by
  unfold d_d
  cases hd : a_t s with
  | none => rfl
  | some x =>
   obtain ⟨r, k⟩ := x
   have := f_L hd
   simp only
   rw [m_k n m (s.drop k) (by rw [List.length_drop]; omega) (by rw [List.length_drop]; omega)]
theorem e_B {s : List UInt8} (h : a_t s = none) : a_j s = ([], 0) := by
 unfold a_j
 cases hl : s.length with
 | zero => rfl
 | succ n => unfold d_d; rw [h]
theorem i_1 {s : List UInt8} {r : o_} {k : Nat} (h : a_t s = some (r, k)) : a_j s = (r :: (a_j (s.drop k)).1, k + (a_j (s.drop k)).2) := by
 have hp := f_L h
 unfold a_j
 obtain ⟨n, hn⟩ : ∃ n, s.length = n + 1 := ⟨s.length - 1, by omega⟩
 rw [hn]
 conv => lhs; unfold d_d
 rw [h]
 simp only
 rw [m_k n (s.drop k).length _ (by rw [List.length_drop]; omega) (Nat.le_refl _)]
theorem f_M : ∀ (n : Nat) (s : List UInt8), s.length ≤ n → (a_j s).2 ≤ s.length ∧ 6 * (a_j s).1.length ≤ s.length ∧ ∀ r ∈ (a_j s).1, a_s r = true
 | 0, s, h => by
  have : s = [] := List.eq_nil_of_length_eq_zero (by omega)
  subst this; exact ⟨Nat.le_refl _, Nat.le_refl _, fun r hr => by cases hr⟩
 | n + 1, s, h => by
  cases hd : a_t s with
  | none => rw [e_B hd]; exact ⟨Nat.zero_le _, Nat.zero_le _, fun r hr => by cases hr⟩
  | some x =>
   obtain ⟨r, k⟩ := x
   have hp := f_L hd
   obtain ⟨h1, h2, h3⟩ := f_M n (s.drop k) (by rw [List.length_drop]; omega)
   rw [List.length_drop] at h1 h2
   rw [i_1 hd]
   refine ⟨by simp only; omega, by simp only [lC_]; omega, fun x hx => ?_⟩
   rcases List.mem_cons.1 hx with rfl | hx
   ·exact (q_6 hd).1
   ·exact h3 x hx
def c_t (r : o_) : s_ := ⟨r.name, r.version, r.data⟩
def c_a (l : List s_) (r : o_) : List s_ :=
 match l.findIdx? (fun f => f.name.b == r.name.b) with
 | some k => if r.kind = 1 then l.set k (c_t r) else l.eraseIdx k
 | none => if r.kind = 1 then l ++ [c_t r] else l
def b_R (s : List UInt8) : List s_ := (a_j s).1.foldl c_a []
def c_u (l : List s_) : Prop := (l.map (·.name.b)).Nodup
section
variable {l : List s_} {r : o_}
def a_X (r : o_) (x : s_) : List s_ := if (x.name.b != r.name.b) = true then [x] else if r.kind = 1 then [c_t r] else []
def sapR (l : List s_) (r : o_) : List s_ := l.flatMap (a_X r) ++ if r.kind = 1 ∧ (l.any fun f => f.name.b == r.name.b) = false then [c_t r] else []
theorem k_f : ∀ {l : List s_}, (l.any fun f => f.name.b == r.name.b) = false → l.flatMap (a_X r) = l
 | [], _ => rfl
 | x :: t, h => by
  simp only [List.any_cons, Bool.or_eq_false_iff] at h
  have : a_X r x = [x] := by unfold a_X; rw [iP_ (by simpa using h.1)]
  rw [List.flatMap_cons, this, k_f h.2]; rfl
theorem m_l {l : List s_} : (l.any fun f => f.name.b == r.name.b) = (l.findIdx? fun f => f.name.b == r.name.b).isSome := by
 induction l with
 | nil => rfl
 | cons x t ih =>
  rw [List.any_cons, List.findIdx?_cons, ih]
  cases x.name.b == r.name.b <;> simp
theorem m_m : ∀ {l : List s_} {k : Nat}, c_u l → (l.findIdx? fun f => f.name.b == r.name.b) = some k → l.flatMap (a_X r) = if r.kind = 1 then l.set k (c_t r) else l.eraseIdx k
 | [], k, _, h => by simp at h
 | x :: t, k, hn, h => by
  rw [List.findIdx?_cons] at h
  unfold c_u at hn
  simp only [List.map_cons, List.nodup_cons] at hn
  rw [List.flatMap_cons]
  cases hx : x.name.b == r.name.b with
  | true =>
   rw [hx] at h
   simp only [fT_, oI_] at h
   subst h
   have hx' : x.name.b = r.name.b := by simpa using hx
   have hnone : (t.any fun f => f.name.b == r.name.b) = false := by
    rw [List.any_eq_false]
    intro y hy hc
    have : y.name.b = x.name.b := by rw [hx']; simpa using hc
    exact hn.1 (this ▸ List.mem_map_of_mem hy)
   rw [k_f hnone]
   unfold a_X
   rw [iN_ (by simp [hx'])]
   split <;> rfl
  | false =>
   rw [hx] at h
   simp only [bF_, fF_, Option.map_eq_some_iff] at h
   obtain ⟨j, hj, rfl⟩ := h
   have hs : a_X r x = [x] := by unfold a_X; rw [iP_ (by simpa using hx)]
   rw [hs, m_m hn.2 hj]
   split <;> rfl
theorem q_8 (hn : c_u l) : sapR l r = c_a l r := by
 unfold sapR c_a
 rw [m_l]
 cases h : l.findIdx? fun f => f.name.b == r.name.b with
 | none =>
  rw [k_f (by rw [m_l, h]; rfl)]
  simp only [Option.isSome_none, and_true]
  split <;> simp
 | some k =>
  rw [m_m hn h]
  simp only [Option.isSome_some, Bool.true_eq_false, and_false, fF_, List.append_nil]
theorem q_9 (hn : c_u l) : c_u (c_a l r) := by
 unfold c_a
 cases h : l.findIdx? fun f => f.name.b == r.name.b with
 | none =>
  simp only
  split
  ·unfold c_u at *
   rw [List.map_append, List.nodup_append]
   refine ⟨hn, by simp, fun a ha b hb he => ?_⟩
   simp only [List.map_cons, List.map_nil, List.mem_singleton, c_t] at hb
   obtain ⟨x, hx, rfl⟩ := List.mem_map.1 ha
   have := List.findIdx?_eq_none_iff.1 h x hx
   rw [he, hb] at this; simp at this
  ·exact hn
 | some k =>
  obtain ⟨hk, hp, _⟩ := List.findIdx?_eq_some_iff_getElem.1 h
  simp only
  split
  ·unfold c_u at *
   have : (l.set k (c_t r)).map (·.name.b) = l.map (·.name.b) := by
    rw [List.map_set]
    have h2 : (l.map (·.name.b))[k]? = some (c_t r).name.b := by
     rw [List.getElem?_map, gG_ hk]
     simp only [Option.map_some, c_t]
     congr 1; simpa using hp
    apply List.ext_getElem?
    intro i
    by_cases hi : k = i
    ·subst hi
     rw [List.getElem?_set_self (by simpa using hk), h2]
    ·rw [List.getElem?_set_ne hi]
   rw [this]; exact hn
  ·unfold c_u at *
   exact hn.sublist (List.Sublist.map _ (List.eraseIdx_sublist l k))
theorem q_a : (c_a l r).length ≤ l.length + 1 := by
 unfold c_a
 split <;> split
 ·rw [List.length_set]; omega
 ·rename_i k _ _; have := List.length_eraseIdx_le l k; omega
 ·simp
 ·omega
end
end Go.Vw
