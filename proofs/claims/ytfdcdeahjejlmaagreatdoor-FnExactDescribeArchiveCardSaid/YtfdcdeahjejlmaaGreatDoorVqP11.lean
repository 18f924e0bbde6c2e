import Derived.Test.YtfdcdeahjejlmaaGreatDoorVqP10
set_option linter.unusedVariables false
namespace Go.Vw
open Go.RowKit Dat
theorem h_s {σ ρ : Type} {body : Nat → σ → Option (Out σ ρ)} (I : Nat → σ → Prop) (R : ρ → Prop) {n : Nat} (h : ∀ k s, k < n → I k s → (∃ s', body k s = some (.next s') ∧ I (k + 1) s') ∨ (∃ r, body k s = some (.ret r) ∧ R r)) :
  ∀ m k s, k + m = n → I k s → (∃ s', w_ body m k s = some (.inl s') ∧ I n s') ∨ (∃ r, w_ body m k s = some (.inr r) ∧ R r)
 | 0, k, s, hk, hi => .inl ⟨s, rfl, by rw [← hk]; exact hi⟩
 | m + 1, k, s, hk, hi => by
  unfold w_
  rcases h k s (by omega) hi with ⟨s', h1, h2⟩ | ⟨r, h1, h2⟩
  ·rw [h1]; exact h_s I R h m (k + 1) s' (by omega) h2
  ·rw [h1]; exact .inr ⟨r, rfl, h2⟩
structure LnR (r : e_) : Prop where
 name : r.name.b.length ≤ LEN
 bytes : r.bytes.length ≤ LEN
 names : r.names.length ≤ LEN
 tags : r.tags.length ≤ LEN
 kids : r.kids.length ≤ LEN
 each : ∀ s ∈ r.names, s.b.length ≤ LEN
structure LnD (d : g_) : Prop where
 rules : d.rules.length ≤ LEN
 each : ∀ r ∈ d.rules, LnR r
theorem LENv : LEN = 140737488355328 := rfl
def a_l (l : Int) : Prop := 0 ≤ l ∧ l ≤ 1048576
theorem l_n {α : Type} (a : List α) {left : Int} (hl : a_l left) (ha : a.length ≤ LEN) : (if (decide ((y_ left (a.length : Int)) < 0)) = true then some (-1) else some (y_ left (a.length : Int))) = some (if left < a.length then -1 else left - a.length) := by
 have := LENv
 unfold a_l at hl
 rw [a_h (by omega) (by omega)]
 by_cases h : left < a.length
 ·rw [dT_ (by omega), iP_ h]; rfl
 ·rw [dF_ (by omega), iN_ h]; rfl
theorem p_x {α : Type} {l : List α} {z : α} {j : Nat} (hj : j < l.length) : (l.take j ++ List.replicate (l.length - j) z).set j l[j] = l.take (j + 1) ++ List.replicate (l.length - (j + 1)) z := by
 rw [List.set_append_right _ _ (by simp; omega)]
 rw [show j - (l.take j).length = 0 by simp; omega, show l.length - j = (l.length - (j + 1)) + 1 by omega, List.replicate_succ, List.set_cons_zero, List.take_add_one, gG_ hj, Option.toList_some, List.append_assoc]
 rfl
theorem f_z {α ρ : Type} {l : List α} {z : α} (body : Nat → List α → Option (Out (List α) ρ)) (hb : ∀ k (hk : k < l.length) (c : List α), c.length = l.length → body k c = some (.next (c.set k l[k]))) :
  w_ body l.length 0 (List.replicate l.length z) = some (.inl l) := by
 have h := b_n (n := l.length) (body := body) (fun k => l.take k ++ List.replicate (l.length - k) z) (fun j hj => by
  rw [hb j hj _ (by simp; omega), p_x hj])
 simpa using h
theorem l_o {l : List UInt8} (hl : l.length ≤ MX) : e_I l = some l := by
 have := MXv; have := a_e
 unfold e_I
 rw [e_D (by omega), bd_some, f_z _ (fun k hk c hc => by rw [ix_ hk, bd_some, c_2 (by omega), bd_some])]; rfl
theorem l_p {l : List Int} (hl : l.length ≤ MX) : e_J l = some l := by
 have := MXv; have := a_e
 unfold e_J
 rw [e_D (by omega), bd_some, f_z _ (fun k hk c hc => by rw [ix_ hk, bd_some, c_2 (by omega), bd_some])]; rfl
theorem p_y {l : List Str} (hl : l.length ≤ MX) : f_M l = some l := by
 have := MXv; have := a_e
 unfold f_M
 rw [e_D (by omega), bd_some, f_z _ (fun k hk c hc => by rw [ix_ hk, bd_some, c_2 (by omega), bd_some])]; rfl
theorem p_z {r : e_} (hr : SmR r) : f_N r = some r := by
 unfold f_N
 rw [l_o hr.bytes, bd_some, p_y hr.names, bd_some, l_p hr.tags, bd_some, l_p hr.kids, bd_some]
theorem p_A {d : g_} (hd : SmD d) : f_O d = some d := by
 have := MXv; have := a_e; have := hd.rules
 unfold f_O h_W
 rw [e_D (by omega), bd_some, f_z _ (fun k hk c hc => by rw [ix_ hk, bd_some, p_z (hd.each _ (gE_ hk)), bd_some, c_2 (by omega), bd_some])]; rfl
theorem eq_int (l : List Int) : e_U l l = some true := by
 unfold e_U
 rw [b_n (fun _ => ()) (n := l.length) (fun j hj => by rw [ix_ hj]; simp only [bd_some, bN_, bF_, fF_])]
 simp
theorem l_q (l : List UInt8) : e_T l l = some true := by
 unfold e_T
 rw [b_n (fun _ => ()) (n := l.length) (fun j hj => by rw [ix_ hj]; simp only [bd_some, bN_, bF_, fF_])]
 simp
theorem j_I (l : List Str) : c_o l l = some true := by
 unfold c_o
 rw [b_n (fun _ => ()) (n := l.length) (fun j hj => by rw [ix_ hj]; simp only [bd_some, bN_, bF_, fF_])]
 simp
theorem p_B (r : e_) : g_s r r = some true := by
 unfold g_s
 simp only [eq_int, l_q, j_I, bd_some, bN_, bF_, fF_, nT_]
theorem p_C (d : g_) : g_t d d = some true := by
 unfold g_t i_0
 rw [b_n (fun _ => ()) (n := d.rules.length) (fun j hj => by rw [ix_ hj]; simp only [bd_some, p_B, nT_, bF_, fF_])]
 simp
theorem l_r : ∀ (k x : Nat), x < 10 ^ k → x ≤ 4611686018427387904 → ∀ (s : Str) (n : Nat), k + 1 ≤ n → s.b.length + k ≤ 1000 →
  ∃ t, E_ (σ := Int × Str) (ρ := Str) (un2 fun x54 x56 => if (decide (0 < x54)) = true then bd (cat (⟨[mkB (c_ 48 (a_C x54 10))]⟩ : Str) x56) fun x89 => some (.next (c_b x54 10, x89)) else some (.brk (x54, x56))) n ((x : Int), s) = some (.inl t) ∧ t.2.b.length ≤ s.b.length + k
 | 0, x, h, _, s, n, hn, _ => by
  obtain ⟨m, rfl⟩ : ∃ m, n = m + 1 := ⟨n - 1, by omega⟩
  have : x = 0 := by simp at h; omega
  subst this
  exact ⟨(0, s), rfl, by simp⟩
 | k + 1, x, h, hb, s, n, hn, hs => by
  obtain ⟨m, rfl⟩ : ∃ m, n = m + 1 := ⟨n - 1, by omega⟩
  unfold E_
  simp only [un2]
  by_cases h0 : 0 < x
  ·rw [dT_ (show (0 : Int) < (x : Int) by omega), h_T (by omega), n_0 (by omega) (by omega) (by omega)]
   simp only [fT_]
   rw [c_n (by rw [a_e]; simp only [lC_, List.length_nil]; omega), bd_some, show (x : Int) / 10 = ((x / 10 : Nat) : Int) by omega]
   simp only
   obtain ⟨t, h1, h2⟩ := l_r k (x / 10) (by rw [Nat.pow_succ] at h; omega) (by omega) ⟨[mkB (c_ 48 ((x : Int) % 10))] ++ s.b⟩ m (by omega) (by simp; omega)
   refine ⟨t, h1, ?_⟩
   simp only [List.length_append, lC_, List.length_nil] at h2
   omega
  ·rw [dF_ (show ¬ (0 : Int) < (x : Int) by omega)]
   exact ⟨_, rfl, by simp only; omega⟩
theorem l_s {n : Nat} (hn : 30 ≤ n) {k : Int} (h0 : 0 ≤ k) (hk : k ≤ 1152921504606846976) : ∃ t, d_j n k = some t ∧ t.b.length ≤ 30 := by
 unfold d_j
 by_cases h : k ≤ 0
 ·rw [dT_ h]; exact ⟨_, rfl, by simp⟩
 ·rw [dF_ h]
  simp only [bF_, fF_]
  obtain ⟨t, h1, h2⟩ := l_r 20 k.toNat (by omega) (by omega) ⟨[]⟩ n (by omega) (by simp)
  rw [show ((k.toNat : Nat) : Int) = k by omega] at h1
  rw [h1]
  simp only [List.length_nil] at h2
  simp only [bd_some, el_inl, un2]
  rw [c_n (by rw [a_e]; simp only [lC_, List.length_nil]; omega)]
  exact ⟨_, rfl, by simp only [List.length_append, lC_, List.length_nil]; omega⟩
theorem p_D {α : Type} {l : List α} (f : Nat → α) {j : Nat} (hj : j < l.length) : ((List.range j).map f ++ l.drop j).set j (f j) = (List.range (j + 1)).map f ++ l.drop (j + 1) := by
 rw [List.set_append_right _ _ (by simp), show j - ((List.range j).map f).length = 0 by simp, dC_ hj, List.set_cons_zero, List.range_succ, List.map_append, List.append_assoc]
 rfl
theorem j_J {α ρ : Type} {l : List α} (f : Int → α) {k : Int} (h0 : 0 ≤ k) (hk : k + l.length ≤ 1152921504606846976) {n : Nat} (hn : l.length < n) {step : List α × Int × Int → Option (Out (List α × Int × Int) ρ)}
  (hs : ∀ (c : List α) (j : Nat) (x : Int), c.length = l.length → 0 ≤ x → x < 1152921504606846976 → j < c.length → step (c, x, (j : Int)) = some (.next (c.set j (f x), x + 1, ((j + 1 : Nat) : Int)))) (he : ∀ (c : List α) (j : Nat) (x : Int), ¬ j < c.length → step (c, x, (j : Int)) = some (.brk (c, x, (j : Int)))) :
  E_ step n (l, k, 0) = some (.inl ((List.range l.length).map (fun (i : Nat) => f (k + i)), k + l.length, (l.length : Int))) := by
 have h := e_E (step := step) (m := n) (fun j => ((List.range j).map (fun (i : Nat) => f (k + i)) ++ l.drop j, k + j, (j : Int))) (j0 := l.length) (s := ((List.range l.length).map (fun (i : Nat) => f (k + i)), k + l.length, (l.length : Int))) hn (fun j hj => by
  rw [hs _ j _ (by simp; omega) (by omega) (by omega) (by simp; omega), p_D (fun (i : Nat) => f (k + i)) hj]
  congr 4
  omega) (by
  rw [he _ _ _ (by simp)]
  simp)
 simpa using h
theorem l_t {n : Nat} {l : List UInt8} {k : Int} (h0 : 0 ≤ k) (hk : k + l.length ≤ 1152921504606846976) (hn : l.length < n) : e_V n l k = some (k + l.length, (List.range l.length).map (fun (i : Nat) => mkB (k + i))) := by
 unfold e_V
 rw [j_J mkB h0 hk hn (fun c j x hcl hx0 hx hj => by
  simp only [un3]
  rw [dT_ (show (j : Int) < (c.length : Int) by omega), iP_ rfl, c_2 hj, bd_some, ia_ (by omega) (by omega), ia_ (x := (j : Int)) (by omega) (by omega)]; rfl) (fun c j x hj => by
  simp only [un3]
  rw [dF_ (show ¬ (j : Int) < (c.length : Int) by omega)]; rfl)]
 rfl
theorem l_u {n : Nat} {l : List Int} {k : Int} (h0 : 0 ≤ k) (hk : k + l.length ≤ 1152921504606846976) (hn : l.length < n) : e_W n l k = some (k + l.length, (List.range l.length).map (fun (i : Nat) => k + i)) := by
 unfold e_W
 rw [j_J (fun x => x) h0 hk hn (fun c j x hcl hx0 hx hj => by
  simp only [un3]
  rw [dT_ (show (j : Int) < (c.length : Int) by omega), iP_ rfl, c_2 hj, bd_some, ia_ (by omega) (by omega), ia_ (x := (j : Int)) (by omega) (by omega)]; rfl) (fun c j x hj => by
  simp only [un3]
  rw [dF_ (show ¬ (j : Int) < (c.length : Int) by omega)]; rfl)]
 rfl
def c_I (n : Nat) (k : Int) : Str := (d_j n k).getD default
theorem j_K {n : Nat} {l : List Str} {k : Int} (h0 : 0 ≤ k) (hk : k + l.length ≤ 1152921504606846976) (hn : l.length < n) (h30 : 30 ≤ n) : e_f n l k = some (k + l.length, (List.range l.length).map (fun (i : Nat) => c_I n (k + i))) := by
 unfold e_f
 rw [j_J (c_I n) h0 hk hn (fun c j x hcl hx0 hx hj => by
  simp only [un3]
  obtain ⟨t, ht, _⟩ := l_s h30 hx0 (by omega : x ≤ 1152921504606846976)
  rw [dT_ (show (j : Int) < (c.length : Int) by omega), iP_ rfl, ht, bd_some, c_2 hj, bd_some, ia_ (by omega) (by omega), ia_ (x := (j : Int)) (by omega) (by omega), show c_I n x = t by unfold c_I; rw [ht]; rfl]; rfl) (fun c j x hj => by
  simp only [un3]
  rw [dF_ (show ¬ (j : Int) < (c.length : Int) by omega)]; rfl)]
 rfl
theorem d_Z {α : Type} {l : List α} {j : Nat} {x : α} (h : j < l.length) : idx (l.set j x) (j : Int) = some x := by
 rw [ix_ (by simpa using h)]; simp
theorem j_L {α : Type} {l : List α} {j : Nat} {x y : α} (h : j < l.length) : upd (l.set j x) (j : Int) y = some (l.set j y) := by
 rw [c_2 (by simpa using h)]; simp
end Go.Vw
