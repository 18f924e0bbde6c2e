import Derived.Test.YtfdcdeahjejlmaaGreatDoorVqP30
set_option linter.unusedVariables false
namespace Go.Vw
open Go.RowKit Dat
def a_G (r : o_) : Bool :=
 a_U r.name && (decide (0 ≤ r.version) && decide (r.version ≤ 7)) && decide (r.data.length ≤ 400) && (r.kind == 1 || (r.kind == 2 && r.version == 0 && r.data.length == 0))
def d_w (r : o_) : List UInt8 :=
 [mkB r.kind, mkB (r.name.b.length : Int)] ++ r.name.b ++ [mkB r.version, mkB (b_T .i64 ((b_D r.data).length : Int) 8), mkB ((b_D r.data).length : Int)] ++ b_D r.data
def a_t (r : o_) : List UInt8 := if a_G r = true then d_w r ++ [mkB (b_X (d_w r))] else []
theorem d_x {r : o_} (h : a_G r = true) : r.name.b.length ≤ 12 ∧ 0 ≤ r.version ∧ r.version ≤ 7 ∧ r.data.length ≤ 400 ∧ 1 ≤ r.kind ∧ r.kind ≤ 2 ∧ (b_D r.data).length ≤ 800 := by
 unfold a_G at h
 simp only [aE_, dE_, Bool.or_eq_true, beq_iff_eq] at h
 obtain ⟨⟨⟨h1, h2, h3⟩, h4⟩, h5⟩ := h
 have hp := l_U _ _ (Nat.le_refl r.data.length)
 refine ⟨?_, h2, h3, h4, by omega, by omega, by omega⟩
 unfold a_U at h1
 simp only [aE_, dE_] at h1
 exact h1.2.2
theorem q_3 {r : o_} : a_t r ≠ [] ↔ a_G r = true := by
 unfold a_t
 constructor
 ·intro h
  by_cases hv : a_G r = true
  ·exact hv
  ·rw [iN_ hv] at h; exact absurd rfl h
 ·intro h; rw [iP_ h]; simp [d_w]
theorem l_W {r : o_} (h : a_G r = true) : (a_t r).length = r.name.b.length + 6 + (b_D r.data).length := by
 unfold a_t; rw [iP_ h]; simp [d_w]; omega
def f_A (t : List UInt8) (data : List UInt8) : o_ :=
 ⟨byteI (t.getD 0 0), ⟨(t.drop 2).take (t.getD 1 0).toNat⟩, byteI (t.getD ((t.getD 1 0).toNat + 2) 0), data⟩
def j_Y (t : List UInt8) : List UInt8 := (t.drop ((t.getD 1 0).toNat + 5)).take (t.length - (t.getD 1 0).toNat - 6)
def h_A (t : List UInt8) : Option o_ :=
 match c_h (j_Y t) with
 | none => none
 | some data => if a_G (f_A t data) = true ∧ a_t (f_A t data) = t then some (f_A t data) else none
def a_i (s : List UInt8) : Option (o_ × Nat) :=
 match b_E s with
 | none => none
 | some k => match h_A (s.take k) with
  | none => none
  | some r => some (r, k)
theorem h_B {s : List UInt8} {r : o_} {k : Nat} (h : a_i s = some (r, k)) : b_E s = some k ∧ h_A (s.take k) = some r := by
 unfold a_i at h
 split at h
 ·cases h
 ·rename_i k' hk
  split at h
  ·cases h
  ·rename_i r' hr; cases h; exact ⟨hk, hr⟩
theorem f_B {s : List UInt8} {r : o_} {k : Nat} (h : a_i s = some (r, k)) : 6 ≤ k ∧ k ≤ s.length := by
 obtain ⟨c, hi, lo, _, _, _, hk, h2⟩ := j_X (h_B h).1
 omega
theorem q_4 {s : List UInt8} {r : o_} {k : Nat} (h : a_i s = some (r, k)) : a_G r = true ∧ a_t r = s.take k := by
 have := (h_B h).2
 unfold h_A at this
 split at this
 ·cases this
 ·split at this
  ·rename_i hv; cases this; exact hv
  ·cases this
theorem q_5 {s : List UInt8} {r : o_} {k m : Nat} (h : a_i s = some (r, k)) (hk : k ≤ m) : a_i (s.take m) = some (r, k) := by
 obtain ⟨h1, h2⟩ := h_B h
 unfold a_i
 rw [q_1 h1 hk]
 simp only
 rw [List.take_take, Nat.min_eq_left hk, h2]
theorem l_X {s : List UInt8} {r : o_} {k m : Nat} (h : a_i (s.take m) = some (r, k)) : a_i s = some (r, k) ∧ k ≤ m := by
 obtain ⟨h1, h2⟩ := h_B h
 obtain ⟨h3, h4⟩ := q_2 h1
 rw [List.take_take, Nat.min_eq_left h4] at h2
 refine ⟨?_, h4⟩
 unfold a_i; rw [h3]; simp only; rw [h2]
def d_f : Nat → List UInt8 → List o_ × Nat
 | 0, _ => ([], 0)
 | n + 1, s => match a_i s with
  | none => ([], 0)
  | some (r, k) => (r :: (d_f n (s.drop k)).1, k + (d_f n (s.drop k)).2)
def a_a (s : List UInt8) : List o_ × Nat := d_f s.length s
theorem l_Y : ∀ (n m : Nat) (s : List UInt8), s.length ≤ n → s.length ≤ m → d_f n s = d_f m s
 | 0, 0, _, _, _ => rfl
 | 0, m + 1, s, h, _ => by
  have : s = [] := List.eq_nil_of_length_eq_zero (by omega)
  subst this; rfl
 | n + 1, 0, s, _, h => by
  have : s = [] := List.eq_nil_of_length_eq_zero (by omega)
  subst this; rfl
 | n + 1, m + 1, s, h1, h2 => by
  unfold d_f
  cases hd : a_i s with
  | none => rfl
  | some x =>
   obtain ⟨r, k⟩ := x
   have := f_B hd
   simp only
   rw [l_Y n m (s.drop k) (by rw [List.length_drop]; omega) (by rw [List.length_drop]; omega)]
theorem e_x {s : List UInt8} (h : a_i s = none) : a_a s = ([], 0) := by
 unfold a_a
 cases hl : s.length with
 | zero => rfl
 | succ n => unfold d_f; rw [h]
theorem h_C {s : List UInt8} {r : o_} {k : Nat} (h : a_i s = some (r, k)) : a_a s = (r :: (a_a (s.drop k)).1, k + (a_a (s.drop k)).2) := by
 have hp := f_B h
 unfold a_a
 obtain ⟨n, hn⟩ : ∃ n, s.length = n + 1 := ⟨s.length - 1, by omega⟩
 rw [hn]
 conv => lhs; unfold d_f
 rw [h]
 simp only
 rw [l_Y n (s.drop k).length _ (by rw [List.length_drop]; omega) (Nat.le_refl _)]
theorem e_1 : ∀ (n : Nat) (s : List UInt8), s.length ≤ n → (a_a s).2 ≤ s.length ∧ 6 * (a_a s).1.length ≤ s.length ∧ ∀ r ∈ (a_a s).1, a_G r = true
 | 0, s, h => by
  have : s = [] := List.eq_nil_of_length_eq_zero (by omega)
  subst this; exact ⟨Nat.le_refl _, Nat.le_refl _, fun r hr => by cases hr⟩
 | n + 1, s, h => by
  cases hd : a_i s with
  | none => rw [e_x hd]; exact ⟨Nat.zero_le _, Nat.zero_le _, fun r hr => by cases hr⟩
  | some x =>
   obtain ⟨r, k⟩ := x
   have hp := f_B hd
   obtain ⟨h1, h2, h3⟩ := e_1 n (s.drop k) (by rw [List.length_drop]; omega)
   rw [List.length_drop] at h1 h2
   rw [h_C hd]
   refine ⟨by simp only; omega, by simp only [lC_]; omega, fun x hx => ?_⟩
   rcases List.mem_cons.1 hx with rfl | hx
   ·exact (q_4 hd).1
   ·exact h3 x hx
def b_Z (r : o_) : n_ := ⟨r.name, r.version, r.data⟩
def b_s (l : List n_) (r : o_) : List n_ :=
 match l.findIdx? (fun f => f.name.b == r.name.b) with
 | some k => if r.kind = 1 then l.set k (b_Z r) else l.eraseIdx k
 | none => if r.kind = 1 then l ++ [b_Z r] else l
def b_g (s : List UInt8) : List n_ := (a_a s).1.foldl b_s []
def c_i (l : List n_) : Prop := (l.map (·.name.b)).Nodup
section
variable {l : List n_} {r : o_}
def a_N (r : o_) (x : n_) : List n_ := if (x.name.b != r.name.b) = true then [x] else if r.kind = 1 then [b_Z r] else []
def sapR (l : List n_) (r : o_) : List n_ := l.flatMap (a_N r) ++ if r.kind = 1 ∧ (l.any fun f => f.name.b == r.name.b) = false then [b_Z r] else []
theorem j_Z : ∀ {l : List n_}, (l.any fun f => f.name.b == r.name.b) = false → l.flatMap (a_N r) = l
 | [], _ => rfl
 | x :: t, h => by
  simp only [List.any_cons, Bool.or_eq_false_iff] at h
  have : a_N r x = [x] := by unfold a_N; rw [iP_ (by simpa using h.1)]
  rw [List.flatMap_cons, this, j_Z h.2]; rfl
theorem l_Z {l : List n_} : (l.any fun f => f.name.b == r.name.b) = (l.findIdx? fun f => f.name.b == r.name.b).isSome := by
 induction l with
 | nil => rfl
 | cons x t ih =>
  rw [List.any_cons, List.findIdx?_cons, ih]
  cases x.name.b == r.name.b <;> simp
theorem m_0 : ∀ {l : List n_} {k : Nat}, c_i l → (l.findIdx? fun f => f.name.b == r.name.b) = some k → l.flatMap (a_N r) = if r.kind = 1 then l.set k (b_Z r) else l.eraseIdx k
 | [], k, _, h => by simp at h
 | x :: t, k, hn, h => by
  rw [List.findIdx?_cons] at h
  unfold c_i at hn
  simp only [List.map_cons, List.nodup_cons] at hn
  rw [List.flatMap_cons]
  cases hx : x.name.b == r.name.b with
  | true =>
   rw [hx] at h
   simp only [fT_, oI_] at h
   subst h
   have hx' : x.name.b = r.name.b := by simpa using hx
   have hnone : (t.any fun f => f.name.b == r.name.b) = false := by
    rw [List.any_eq_false]
    intro y hy hc
    have : y.name.b = x.name.b := by rw [hx']; simpa using hc
    exact hn.1 (this ▸ List.mem_map_of_mem hy)
   rw [j_Z hnone]
   unfold a_N
   rw [iN_ (by simp [hx'])]
   split <;> rfl
  | false =>
   rw [hx] at h
   simp only [bF_, fF_, Option.map_eq_some_iff] at h
   obtain ⟨j, hj, rfl⟩ := h
   have hs : a_N r x = [x] := by unfold a_N; rw [iP_ (by simpa using hx)]
   rw [hs, m_0 hn.2 hj]
   split <;> rfl
theorem q_6 (hn : c_i l) : sapR l r = b_s l r := by
 unfold sapR b_s
 rw [l_Z]
 cases h : l.findIdx? fun f => f.name.b == r.name.b with
 | none =>
  rw [j_Z (by rw [l_Z, h]; rfl)]
  simp only [Option.isSome_none, and_true]
  split <;> simp
 | some k =>
  rw [m_0 hn h]
  simp only [Option.isSome_some, Bool.true_eq_false, and_false, fF_, List.append_nil]
theorem q_7 (hn : c_i l) : c_i (b_s l r) := by
 unfold b_s
 cases h : l.findIdx? fun f => f.name.b == r.name.b with
 | none =>
  simp only
  split
  ·unfold c_i at *
   rw [List.map_append, List.nodup_append]
   refine ⟨hn, by simp, fun a ha b hb he => ?_⟩
   simp only [List.map_cons, List.map_nil, List.mem_singleton, b_Z] at hb
   obtain ⟨x, hx, rfl⟩ := List.mem_map.1 ha
   have := List.findIdx?_eq_none_iff.1 h x hx
   rw [he, hb] at this; simp at this
  ·exact hn
 | some k =>
  obtain ⟨hk, hp, _⟩ := List.findIdx?_eq_some_iff_getElem.1 h
  simp only
  split
  ·unfold c_i at *
   have : (l.set k (b_Z r)).map (·.name.b) = l.map (·.name.b) := by
    rw [List.map_set]
    have h2 : (l.map (·.name.b))[k]? = some (b_Z r).name.b := by
     rw [List.getElem?_map, gG_ hk]
     simp only [Option.map_some, b_Z]
     congr 1; simpa using hp
    apply List.ext_getElem?
    intro i
    by_cases hi : k = i
    ·subst hi
     rw [List.getElem?_set_self (by simpa using hk), h2]
    ·rw [List.getElem?_set_ne hi]
   rw [this]; exact hn
  ·unfold c_i at *
   exact hn.sublist (List.Sublist.map _ (List.eraseIdx_sublist l k))
theorem q_8 : (b_s l r).length ≤ l.length + 1 := by
 unfold b_s
 split <;> split
 ·rw [List.length_set]; omega
 ·rename_i k _ _; have := List.length_eraseIdx_le l k; omega
 ·simp
 ·omega
end
end Go.Vw
