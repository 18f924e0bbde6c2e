import Derived.Test.YtfdcdeahjejlmaaGreatDoorVqP36
set_option linter.unusedVariables false
namespace Go.Vw
open Go.RowKit Dat
theorem f_C {σ ρ : Type} {body : Nat → σ → Option (Out σ ρ)} (f : Nat → σ) {n : Nat} {s : σ} (h0 : s = f 0) (h : ∀ j, j < n → body j (f j) = some (.next (f (j + 1)))) : w_ body n 0 s = some (.inl (f n)) := by
 subst h0; exact b_n f h
theorem q_z {α : Type} (l : List α) (p : α → Bool) (q : Nat → Bool) (h : ∀ k (hk : k < l.length), q k = p l[k]) : (List.range l.length).find? q = l.findIdx? p := by
 cases hf : (List.range l.length).find? q with
 | none =>
  symm
  rw [List.findIdx?_eq_none_iff]
  intro x hx
  obtain ⟨k, hk, rfl⟩ := List.getElem_of_mem hx
  have := List.find?_eq_none.1 hf k (List.mem_range.2 hk)
  rw [h k hk] at this; simpa using this
 | some k =>
  symm
  obtain ⟨hp, as, bs, hl, has⟩ := List.find?_eq_some_iff_append.1 hf
  have hk := List.mem_range.1 (List.mem_of_find?_eq_some hf)
  rw [List.findIdx?_eq_some_iff_getElem]
  refine ⟨hk, by rw [← h k hk]; exact hp, fun j hj => ?_⟩
  have h1 : as.length = k := by
   have h2 : (List.range l.length)[as.length]? = some k := by rw [hl]; simp
   have h3 : as.length < l.length := by
    have := congrArg List.length hl; simp at this; omega
   rw [List.getElem?_range h3] at h2
   exact Option.some.inj h2
  have h2 : (List.range l.length)[j]? = some (as[j]'(by omega)) := by rw [hl, List.getElem?_append_left (by omega)]; simp
  rw [List.getElem?_range (by omega)] at h2
  have h3 := has (as[j]'(by omega)) (gE_ _)
  rw [← Option.some.inj h2, h j (by omega)] at h3
  simpa using h3
theorem q_A (l : List n_) (r : o_) : g_O l r = some (match l.findIdx? (fun f => f.name.b == r.name.b) with | some k => (k : Int) | none => -1) := by
 unfold g_O i_7
 rw [f_I (fun k => if hk : k < l.length then l[k].name.b == r.name.b else false) (fun k => (k : Int)) (fun k hk _ => by
  rw [ix_ hk, bd_some, bd_some, dif_pos hk]
  cases (l[k].name.b == r.name.b) <;> rfl)]
 rw [q_z l (fun f => f.name.b == r.name.b) _ (fun k hk => by rw [dif_pos hk])]
 cases l.findIdx? (fun f => f.name.b == r.name.b) <;> rfl
def c_0 (rs : List o_) (k : Nat) : List n_ := (rs.take k).foldl b_s []
theorem k_7 {rs : List o_} {k : Nat} (hk : k < rs.length) : c_0 rs (k + 1) = b_s (c_0 rs k) rs[k] := by
 unfold c_0
 rw [List.take_add_one, gG_ hk, Option.toList_some, List.foldl_append]; rfl
theorem h_H (rs : List o_) : ∀ k, k ≤ rs.length → (c_0 rs k).length ≤ k ∧ c_i (c_0 rs k)
 | 0, _ => ⟨Nat.le_refl _, by simp [c_0, c_i]⟩
 | k + 1, hk => by
  obtain ⟨h1, h2⟩ := h_H rs k (by omega)
  rw [k_7 (by omega)]
  have := q_8 (l := c_0 rs k) (r := rs[k])
  exact ⟨by omega, q_7 h2⟩
theorem k_8 (rs : List o_) : c_0 rs rs.length = rs.foldl b_s [] := by unfold c_0; rw [List.take_length]
theorem m_p {a : C_} (hb : a.log.bytes.length ≤ ML) {n : Nat} (hn : 1060100 ≤ n) : f_6 n a = some (b_g a.log.bytes) := by
 have hML := MLv; have hMX := MXv; have hLIM := a_e
 unfold f_6 b_g
 rw [m_k hb hn, bd2_some]
 have hle := e_1 _ _ (Nat.le_refl a.log.bytes.length)
 generalize (a_a a.log.bytes).1 = rs at hle
 refine (congrArg (fun z => bd z _) (f_C (c_0 rs) (n := rs.length) rfl (fun k hk => ?_))).trans (by rw [bd_some, el_inl, k_8])
 have hl := (h_H rs k (by omega)).1
 have hv := d_x (hle.2.2 _ (gE_ hk))
 rw [ix_ hk, bd_some, q_A, bd_some, k_7 hk]
 generalize c_0 rs k = l at hl
 generalize rs[k] = r at hv
 unfold b_s
 cases hf : l.findIdx? (fun f => f.name.b == r.name.b) with
 | some j =>
  obtain ⟨hj, _⟩ := List.findIdx?_eq_some_iff_getElem.1 hf
  simp only
  by_cases h1 : r.kind = 1
  ·rw [show (r.kind == 1) = true by simpa using h1, iP_ rfl, dT_ (by omega), bd_some, iP_ rfl, c_2 hj, bd_some, bd_some, iP_ h1]; rfl
  ·rw [show (r.kind == 1) = false by simpa using h1, iN_ (by simp), bd_some, iN_ (by simp), iN_ (by simp), dT_ (by omega), iP_ rfl, iN_ h1]
   rw [e_6 (by omega) (by omega) (by omega), bd_some, ia_ (by omega) (by omega), show ((j : Int) + 1) = ((j + 1 : Nat) : Int) by omega, e_6 (by omega) (by omega) (by omega), bd_some, b_m (by simp only [List.length_drop, List.length_take]; omega), bd_some, bd_some, bd_some]
   simp only [tN_, Int.toNat_zero, List.drop_zero, List.take_length]
   rw [List.eraseIdx_eq_take_drop_succ]; rfl
 | none =>
  simp only
  by_cases h1 : r.kind = 1
  ·rw [show (r.kind == 1) = true by simpa using h1, iP_ rfl, show decide ((0 : Int) ≤ -1) = false from rfl, bd_some, iN_ (by simp), iP_ rfl, a_Q (by omega), bd_some, bd_some, bd_some, iP_ h1]; rfl
  ·rw [show (r.kind == 1) = false by simpa using h1, iN_ (by simp), bd_some, iN_ (by simp), iN_ (by simp), show decide ((0 : Int) ≤ -1) = false from rfl, iN_ (by simp), bd_some, bd_some, iN_ h1]; rfl
theorem q_B {l : List n_} {r : o_} (hl : l.length ≤ ML) (hd : r.data.length ≤ ML) (hn : c_i l) : g_E l r = some (b_s l r) := by
 have hML := MLv; have hMX := MXv; have hLIM := a_e
 unfold g_E
 rw [b_m (by simp only [List.length_nil]; omega), bd_some, bd_some, List.nil_append]
 simp only [un3]
 have hlen : ∀ k, k ≤ l.length → ((l.take k).flatMap (a_N r)).length ≤ k := by
  intro k
  induction k with
  | zero => intro _; simp
  | succ k ih =>
   intro hk
   have := ih (by omega)
   rw [List.take_add_one, gG_ (by omega), Option.toList_some, List.flatMap_append, List.length_append]
   have h1 : (List.flatMap (a_N r) [l[k]]).length ≤ 1 := by
    simp only [List.flatMap_cons, List.flatMap_nil, List.append_nil, a_N]
    split
    ·simp
    ·split <;> simp
   omega
 refine (congrArg (fun z => bd z _) (f_C (fun k => ((l.take k).flatMap (a_N r), (l.take k).any fun f => f.name.b == r.name.b && r.kind == 1)) (n := l.length) rfl (fun k hk => ?_))).trans ?_
 rotate_left
 ·rw [bd_some, el_inl]
  simp only [un2, List.take_length]
  have hs := q_6 (r := r) hn
  unfold sapR at hs
  have hln := hlen l.length (Nat.le_refl _)
  rw [List.take_length] at hln
  by_cases h1 : r.kind = 1
  ·rw [show (r.kind == 1) = true by simpa using h1, iP_ rfl]
   simp only [Bool.and_true, bd_some]
   rw [← hs]
   cases ha : l.any fun f => f.name.b == r.name.b with
   | true => simp [h1]
   | false =>
    simp only [Bool.not_false, fT_]
    rw [a_Q (by omega), bd_some, bd_some, iP_ (by simp [h1])]; rfl
  ·rw [show (r.kind == 1) = false by simpa using h1, iN_ (by simp), bd_some, iN_ (by simp), bd_some, ← hs, iN_ (fun h => h1 h.1), List.append_nil]
 ·simp only [un2]
  have h2 := hlen k (by omega)
  rw [ix_ hk, bd_some, bd_some]
  have e1 : (l.take (k + 1)).flatMap (a_N r) = (l.take k).flatMap (a_N r) ++ a_N r l[k] := by
   rw [List.take_add_one, gG_ hk, Option.toList_some, List.flatMap_append]; simp
  have e2 : ((l.take (k + 1)).any fun f => f.name.b == r.name.b && r.kind == 1) = (((l.take k).any fun f => f.name.b == r.name.b && r.kind == 1) || (l[k].name.b == r.name.b && r.kind == 1)) := by
   rw [List.take_add_one, gG_ hk, Option.toList_some, List.any_append]; simp
  rw [e1, e2]
  generalize (l.take k).flatMap (a_N r) = F at h2
  generalize ((l.take k).any fun f => f.name.b == r.name.b && r.kind == 1) = A
  cases hx : l[k].name.b != r.name.b with
  | true =>
   have h0 : (l[k].name.b == r.name.b) = false := by rw [beq_eq_false_iff_ne]; simpa using hx
   have hs : a_N r l[k] = [l[k]] := by unfold a_N; rw [iP_ hx]
   rw [iP_ rfl, a_Q (by omega), bd_some, bd_some, hs, h0]; simp [un2]
  | false =>
   have h0 : (l[k].name.b == r.name.b) = true := by rw [beq_iff_eq]; simpa using hx
   rw [iN_ (by simp), h0]
   by_cases h1 : r.kind = 1
   ·have hs : a_N r l[k] = [b_Z r] := by unfold a_N; rw [iN_ (by rw [hx]; simp), iP_ h1]
    rw [show (r.kind == 1) = true by simpa using h1, iP_ rfl, a_Q (by omega), bd_some, bd_some, hs]; simp [un2, b_Z, bd_some]
   ·have hs : a_N r l[k] = [] := by unfold a_N; rw [iN_ (by rw [hx]; simp), iN_ h1]
    rw [show (r.kind == 1) = false by simpa using h1, iN_ (by simp), bd_some, hs]; simp [un2, bd_some]
theorem m_q {b : List UInt8} (hb : b.length ≤ ML) {n : Nat} (hn : 1060100 ≤ n) : f_1 n b = some (b_g b) := by
 have hML := MLv; have hMX := MXv; have hLIM := a_e
 unfold f_1 b_g
 rw [h_G hb hn, bd2_some]
 have hle := e_1 _ _ (Nat.le_refl b.length)
 generalize (a_a b).1 = rs at hle
 refine (congrArg (fun z => bd z _) (f_C (c_0 rs) (n := rs.length) rfl (fun k hk => ?_))).trans (by rw [bd_some, el_inl, k_8])
 have hl := h_H rs k (by omega)
 have hv := d_x (hle.2.2 _ (gE_ hk))
 rw [ix_ hk, bd_some, q_B (by omega) (by omega) hl.2, bd_some, k_7 hk]
end Go.Vw
