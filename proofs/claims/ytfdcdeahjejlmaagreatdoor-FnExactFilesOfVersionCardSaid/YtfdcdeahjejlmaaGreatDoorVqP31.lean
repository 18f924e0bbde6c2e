import Derived.Test.YtfdcdeahjejlmaaGreatDoorVqP30
set_option linter.unusedVariables false
namespace Go.Vw
open Go.RowKit Dat
def a_I (r : n_) : Bool :=
 a_Q r.name && (decide (0 ≤ r.version) && decide (r.version ≤ 7)) && decide (r.data.length ≤ 400) && (r.kind == 1 || (r.kind == 2 && r.version == 0 && r.data.length == 0))
def d_m (r : n_) : List UInt8 :=
 [mkB r.kind, mkB (r.name.b.length : Int)] ++ r.name.b ++ [mkB r.version, mkB (b_L .i64 ((b_w r.data).length : Int) 8), mkB ((b_w r.data).length : Int)] ++ b_w r.data
def a_s (r : n_) : List UInt8 := if a_I r = true then d_m r ++ [mkB (b_P (d_m r))] else []
theorem d_R {r : n_} (h : a_I r = true) : r.name.b.length ≤ 12 ∧ 0 ≤ r.version ∧ r.version ≤ 7 ∧ r.data.length ≤ 400 ∧ 1 ≤ r.kind ∧ r.kind ≤ 2 ∧ (b_w r.data).length ≤ 800 := by
 unfold a_I at h
 simp only [aE_, dE_, Bool.or_eq_true, beq_iff_eq] at h
 obtain ⟨⟨⟨h1, h2, h3⟩, h4⟩, h5⟩ := h
 have hp := l_n _ _ (Nat.le_refl r.data.length)
 refine ⟨?_, h2, h3, h4, by omega, by omega, by omega⟩
 unfold a_Q at h1
 simp only [aE_, dE_] at h1
 exact h1.2.2
theorem o_O {r : n_} : a_s r ≠ [] ↔ a_I r = true := by
 unfold a_s
 constructor
 ·intro h
  by_cases hv : a_I r = true
  ·exact hv
  ·rw [iN_ hv] at h; exact absurd rfl h
 ·intro h; rw [iP_ h]; simp [d_m]
theorem l_p {r : n_} (h : a_I r = true) : (a_s r).length = r.name.b.length + 6 + (b_w r.data).length := by
 unfold a_s; rw [iP_ h]; simp [d_m]; omega
def f_n (t : List UInt8) (data : List UInt8) : n_ :=
 ⟨byteI (t.getD 0 0), ⟨(t.drop 2).take (t.getD 1 0).toNat⟩, byteI (t.getD ((t.getD 1 0).toNat + 2) 0), data⟩
def j_j (t : List UInt8) : List UInt8 := (t.drop ((t.getD 1 0).toNat + 5)).take (t.length - (t.getD 1 0).toNat - 6)
def h_g (t : List UInt8) : Option n_ :=
 match c_a (j_j t) with
 | none => none
 | some data => if a_I (f_n t data) = true ∧ a_s (f_n t data) = t then some (f_n t data) else none
def a_h (s : List UInt8) : Option (n_ × Nat) :=
 match b_x s with
 | none => none
 | some k => match h_g (s.take k) with
  | none => none
  | some r => some (r, k)
theorem h_h {s : List UInt8} {r : n_} {k : Nat} (h : a_h s = some (r, k)) : b_x s = some k ∧ h_g (s.take k) = some r := by
 unfold a_h at h
 split at h
 ·cases h
 ·rename_i k' hk
  split at h
  ·cases h
  ·rename_i r' hr; cases h; exact ⟨hk, hr⟩
theorem f_o {s : List UInt8} {r : n_} {k : Nat} (h : a_h s = some (r, k)) : 6 ≤ k ∧ k ≤ s.length := by
 obtain ⟨c, hi, lo, _, _, _, hk, h2⟩ := j_i (h_h h).1
 omega
theorem o_P {s : List UInt8} {r : n_} {k : Nat} (h : a_h s = some (r, k)) : a_I r = true ∧ a_s r = s.take k := by
 have := (h_h h).2
 unfold h_g at this
 split at this
 ·cases this
 ·split at this
  ·rename_i hv; cases this; exact hv
  ·cases this
theorem o_Q {s : List UInt8} {r : n_} {k m : Nat} (h : a_h s = some (r, k)) (hk : k ≤ m) : a_h (s.take m) = some (r, k) := by
 obtain ⟨h1, h2⟩ := h_h h
 unfold a_h
 rw [o_M h1 hk]
 simp only
 rw [List.take_take, Nat.min_eq_left hk, h2]
theorem l_q {s : List UInt8} {r : n_} {k m : Nat} (h : a_h (s.take m) = some (r, k)) : a_h s = some (r, k) ∧ k ≤ m := by
 obtain ⟨h1, h2⟩ := h_h h
 obtain ⟨h3, h4⟩ := o_N h1
 rw [List.take_take, Nat.min_eq_left h4] at h2
 refine ⟨?_, h4⟩
 unfold a_h; rw [h3]; simp only; rw [h2]
def c_W : Nat → List UInt8 → List n_ × Nat
 | 0, _ => ([], 0)
 | n + 1, s => match a_h s with
  | none => ([], 0)
  | some (r, k) => (r :: (c_W n (s.drop k)).1, k + (c_W n (s.drop k)).2)
def a_8 (s : List UInt8) : List n_ × Nat := c_W s.length s
theorem l_r : ∀ (n m : Nat) (s : List UInt8), s.length ≤ n → s.length ≤ m → c_W n s = c_W m s
 | 0, 0, _, _, _ => rfl
 | 0, m + 1, s, h, _ => by
  have : s = [] := List.eq_nil_of_length_eq_zero (by omega)
  subst this; rfl
 | n + 1, 0, s, _, h => by
  have : s = [] := List.eq_nil_of_length_eq_zero (by omega)
  subst this; rfl
 | n + 1, m + 1, s, h1, h2 => by
  unfold c_W
  cases hd : a_h s with
  | none => rfl
  | some x =>
   obtain ⟨r, k⟩ := x
   have := f_o hd
   simp only
   rw [l_r n m (s.drop k) (by rw [List.length_drop]; omega) (by rw [List.length_drop]; omega)]
theorem e_i {s : List UInt8} (h : a_h s = none) : a_8 s = ([], 0) := by
 unfold a_8
 cases hl : s.length with
 | zero => rfl
 | succ n => unfold c_W; rw [h]
theorem h_i {s : List UInt8} {r : n_} {k : Nat} (h : a_h s = some (r, k)) : a_8 s = (r :: (a_8 (s.drop k)).1, k + (a_8 (s.drop k)).2) := by
 have hp := f_o h
 unfold a_8
 obtain ⟨n, hn⟩ : ∃ n, s.length = n + 1 := ⟨s.length - 1, by omega⟩
 rw [hn]
 conv => lhs; unfold c_W
 rw [h]
 simp only
 rw [l_r n (s.drop k).length _ (by rw [List.length_drop]; omega) (Nat.le_refl _)]
theorem e_j : ∀ (n : Nat) (s : List UInt8), s.length ≤ n → (a_8 s).2 ≤ s.length ∧ 6 * (a_8 s).1.length ≤ s.length ∧ ∀ r ∈ (a_8 s).1, a_I r = true
 | 0, s, h => by
  have : s = [] := List.eq_nil_of_length_eq_zero (by omega)
  subst this; exact ⟨Nat.le_refl _, Nat.le_refl _, fun r hr => by cases hr⟩
 | n + 1, s, h => by
  cases hd : a_h s with
  | none => rw [e_i hd]; exact ⟨Nat.zero_le _, Nat.zero_le _, fun r hr => by cases hr⟩
  | some x =>
   obtain ⟨r, k⟩ := x
   have hp := f_o hd
   obtain ⟨h1, h2, h3⟩ := e_j n (s.drop k) (by rw [List.length_drop]; omega)
   rw [List.length_drop] at h1 h2
   rw [h_i hd]
   refine ⟨by simp only; omega, by simp only [lC_]; omega, fun x hx => ?_⟩
   rcases List.mem_cons.1 hx with rfl | hx
   ·exact (o_P hd).1
   ·exact h3 x hx
def c_b (r : n_) : p_ := ⟨r.name, r.version, r.data⟩
def b_R (l : List p_) (r : n_) : List p_ :=
 match l.findIdx? (fun f => f.name.b == r.name.b) with
 | some k => if r.kind = 1 then l.set k (c_b r) else l.eraseIdx k
 | none => if r.kind = 1 then l ++ [c_b r] else l
def b_y (s : List UInt8) : List p_ := (a_8 s).1.foldl b_R []
def c_c (l : List p_) : Prop := (l.map (·.name.b)).Nodup
section
variable {l : List p_} {r : n_}
def a_J (r : n_) (x : p_) : List p_ := if (x.name.b != r.name.b) = true then [x] else if r.kind = 1 then [c_b r] else []
def sapR (l : List p_) (r : n_) : List p_ := l.flatMap (a_J r) ++ if r.kind = 1 ∧ (l.any fun f => f.name.b == r.name.b) = false then [c_b r] else []
theorem j_k : ∀ {l : List p_}, (l.any fun f => f.name.b == r.name.b) = false → l.flatMap (a_J r) = l
 | [], _ => rfl
 | x :: t, h => by
  simp only [List.any_cons, Bool.or_eq_false_iff] at h
  have : a_J r x = [x] := by unfold a_J; rw [iP_ (by simpa using h.1)]
  rw [List.flatMap_cons, this, j_k h.2]; rfl
theorem l_s {l : List p_} : (l.any fun f => f.name.b == r.name.b) = (l.findIdx? fun f => f.name.b == r.name.b).isSome := by
 induction l with
 | nil => rfl
 | cons x t ih =>
  rw [List.any_cons, List.findIdx?_cons, ih]
  cases x.name.b == r.name.b <;> simp
theorem l_t : ∀ {l : List p_} {k : Nat}, c_c l → (l.findIdx? fun f => f.name.b == r.name.b) = some k → l.flatMap (a_J r) = if r.kind = 1 then l.set k (c_b r) else l.eraseIdx k
 | [], k, _, h => by simp at h
 | x :: t, k, hn, h => by
  rw [List.findIdx?_cons] at h
  unfold c_c at hn
  simp only [List.map_cons, List.nodup_cons] at hn
  rw [List.flatMap_cons]
  cases hx : x.name.b == r.name.b with
  | true =>
   rw [hx] at h
   simp only [fT_, oI_] at h
   subst h
   have hx' : x.name.b = r.name.b := by simpa using hx
   have hnone : (t.any fun f => f.name.b == r.name.b) = false := by
    rw [List.any_eq_false]
    intro y hy hc
    have : y.name.b = x.name.b := by rw [hx']; simpa using hc
    exact hn.1 (this ▸ List.mem_map_of_mem hy)
   rw [j_k hnone]
   unfold a_J
   rw [iN_ (by simp [hx'])]
   split <;> rfl
  | false =>
   rw [hx] at h
   simp only [bF_, fF_, Option.map_eq_some_iff] at h
   obtain ⟨j, hj, rfl⟩ := h
   have hs : a_J r x = [x] := by unfold a_J; rw [iP_ (by simpa using hx)]
   rw [hs, l_t hn.2 hj]
   split <;> rfl
theorem o_R (hn : c_c l) : sapR l r = b_R l r := by
 unfold sapR b_R
 rw [l_s]
 cases h : l.findIdx? fun f => f.name.b == r.name.b with
 | none =>
  rw [j_k (by rw [l_s, h]; rfl)]
  simp only [Option.isSome_none, and_true]
  split <;> simp
 | some k =>
  rw [l_t hn h]
  simp only [Option.isSome_some, Bool.true_eq_false, and_false, fF_, List.append_nil]
theorem o_S (hn : c_c l) : c_c (b_R l r) := by
 unfold b_R
 cases h : l.findIdx? fun f => f.name.b == r.name.b with
 | none =>
  simp only
  split
  ·unfold c_c at *
   rw [List.map_append, List.nodup_append]
   refine ⟨hn, by simp, fun a ha b hb he => ?_⟩
   simp only [List.map_cons, List.map_nil, List.mem_singleton, c_b] at hb
   obtain ⟨x, hx, rfl⟩ := List.mem_map.1 ha
   have := List.findIdx?_eq_none_iff.1 h x hx
   rw [he, hb] at this; simp at this
  ·exact hn
 | some k =>
  obtain ⟨hk, hp, _⟩ := List.findIdx?_eq_some_iff_getElem.1 h
  simp only
  split
  ·unfold c_c at *
   have : (l.set k (c_b r)).map (·.name.b) = l.map (·.name.b) := by
    rw [List.map_set]
    have h2 : (l.map (·.name.b))[k]? = some (c_b r).name.b := by
     rw [List.getElem?_map, gG_ hk]
     simp only [Option.map_some, c_b]
     congr 1; simpa using hp
    apply List.ext_getElem?
    intro i
    by_cases hi : k = i
    ·subst hi
     rw [List.getElem?_set_self (by simpa using hk), h2]
    ·rw [List.getElem?_set_ne hi]
   rw [this]; exact hn
  ·unfold c_c at *
   exact hn.sublist (List.Sublist.map _ (List.eraseIdx_sublist l k))
theorem o_T : (b_R l r).length ≤ l.length + 1 := by
 unfold b_R
 split <;> split
 ·rw [List.length_set]; omega
 ·rename_i k _ _; have := List.length_eraseIdx_le l k; omega
 ·simp
 ·omega
end
end Go.Vw
