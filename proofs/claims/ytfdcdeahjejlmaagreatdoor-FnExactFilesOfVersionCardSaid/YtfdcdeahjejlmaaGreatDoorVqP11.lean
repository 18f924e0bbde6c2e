import Derived.Test.YtfdcdeahjejlmaaGreatDoorVqP10
set_option linter.unusedVariables false
namespace Go.Vw
open Go.RowKit Dat
theorem h_8 {σ ρ : Type} {body : Nat → σ → Option (Out σ ρ)} (I : Nat → σ → Prop) (R : ρ → Prop) {n : Nat} (h : ∀ k s, k < n → I k s → (∃ s', body k s = some (.next s') ∧ I (k + 1) s') ∨ (∃ r, body k s = some (.ret r) ∧ R r)) :
  ∀ m k s, k + m = n → I k s → (∃ s', w_ body m k s = some (.inl s') ∧ I n s') ∨ (∃ r, w_ body m k s = some (.inr r) ∧ R r)
 | 0, k, s, hk, hi => .inl ⟨s, rfl, by rw [← hk]; exact hi⟩
 | m + 1, k, s, hk, hi => by
  unfold w_
  rcases h k s (by omega) hi with ⟨s', h1, h2⟩ | ⟨r, h1, h2⟩
  ·rw [h1]; exact h_8 I R h m (k + 1) s' (by omega) h2
  ·rw [h1]; exact .inr ⟨r, rfl, h2⟩
structure LnR (r : e_) : Prop where
 name : r.name.b.length ≤ LEN
 bytes : r.bytes.length ≤ LEN
 names : r.names.length ≤ LEN
 tags : r.tags.length ≤ LEN
 kids : r.kids.length ≤ LEN
 each : ∀ s ∈ r.names, s.b.length ≤ LEN
structure LnD (d : g_) : Prop where
 rules : d.rules.length ≤ LEN
 each : ∀ r ∈ d.rules, LnR r
theorem LENv : LEN = 140737488355328 := rfl
def a_j (l : Int) : Prop := 0 ≤ l ∧ l ≤ 1048576
theorem k_O {α : Type} (a : List α) {left : Int} (hl : a_j left) (ha : a.length ≤ LEN) : (if (decide ((y_ left (a.length : Int)) < 0)) = true then some (-1) else some (y_ left (a.length : Int))) = some (if left < a.length then -1 else left - a.length) := by
 have := LENv
 unfold a_j at hl
 rw [a_g (by omega) (by omega)]
 by_cases h : left < a.length
 ·rw [dT_ (by omega), iP_ h]; rfl
 ·rw [dF_ (by omega), iN_ h]; rfl
theorem o_i {α : Type} {l : List α} {z : α} {j : Nat} (hj : j < l.length) : (l.take j ++ List.replicate (l.length - j) z).set j l[j] = l.take (j + 1) ++ List.replicate (l.length - (j + 1)) z := by
 rw [List.set_append_right _ _ (by simp; omega)]
 rw [show j - (l.take j).length = 0 by simp; omega, show l.length - j = (l.length - (j + 1)) + 1 by omega, List.replicate_succ, List.set_cons_zero, List.take_add_one, gG_ hj, Option.toList_some, List.append_assoc]
 rfl
theorem f_m {α ρ : Type} {l : List α} {z : α} (body : Nat → List α → Option (Out (List α) ρ)) (hb : ∀ k (hk : k < l.length) (c : List α), c.length = l.length → body k c = some (.next (c.set k l[k]))) :
  w_ body l.length 0 (List.replicate l.length z) = some (.inl l) := by
 have h := b_i (n := l.length) (body := body) (fun k => l.take k ++ List.replicate (l.length - k) z) (fun j hj => by
  rw [hb j hj _ (by simp; omega), o_i hj])
 simpa using h
theorem k_P {l : List UInt8} (hl : l.length ≤ MX) : e_u l = some l := by
 have := MXv; have := a_o
 unfold e_u
 rw [e_p (by omega), bd_some, f_m _ (fun k hk c hc => by rw [ix_ hk, bd_some, b_U (by omega), bd_some])]; rfl
theorem k_Q {l : List Int} (hl : l.length ≤ MX) : e_v l = some l := by
 have := MXv; have := a_o
 unfold e_v
 rw [e_p (by omega), bd_some, f_m _ (fun k hk c hc => by rw [ix_ hk, bd_some, b_U (by omega), bd_some])]; rfl
theorem o_j {l : List Str} (hl : l.length ≤ MX) : f_y l = some l := by
 have := MXv; have := a_o
 unfold f_y
 rw [e_p (by omega), bd_some, f_m _ (fun k hk c hc => by rw [ix_ hk, bd_some, b_U (by omega), bd_some])]; rfl
theorem o_k {r : e_} (hr : SmR r) : f_z r = some r := by
 unfold f_z
 rw [k_P hr.bytes, bd_some, o_j hr.names, bd_some, k_Q hr.tags, bd_some, k_Q hr.kids, bd_some]
theorem o_l {d : g_} (hd : SmD d) : f_A d = some d := by
 have := MXv; have := a_o; have := hd.rules
 unfold f_A h_B
 rw [e_p (by omega), bd_some, f_m _ (fun k hk c hc => by rw [ix_ hk, bd_some, o_k (hd.each _ (gE_ hk)), bd_some, b_U (by omega), bd_some])]; rfl
theorem eq_int (l : List Int) : e_G l l = some true := by
 unfold e_G
 rw [b_i (fun _ => ()) (n := l.length) (fun j hj => by rw [ix_ hj]; simp only [bd_some, bN_, bF_, fF_])]
 simp
theorem k_R (l : List UInt8) : e_F l l = some true := by
 unfold e_F
 rw [b_i (fun _ => ()) (n := l.length) (fun j hj => by rw [ix_ hj]; simp only [bd_some, bN_, bF_, fF_])]
 simp
theorem k_S (l : List Str) : d_y l l = some true := by
 unfold d_y
 rw [b_i (fun _ => ()) (n := l.length) (fun j hj => by rw [ix_ hj]; simp only [bd_some, bN_, bF_, fF_])]
 simp
theorem o_m (r : e_) : g_e r r = some true := by
 unfold g_e
 simp only [eq_int, k_R, k_S, bd_some, bN_, bF_, fF_, nT_]
theorem o_n (d : g_) : g_f d d = some true := by
 unfold g_f h_F
 rw [b_i (fun _ => ()) (n := d.rules.length) (fun j hj => by rw [ix_ hj]; simp only [bd_some, o_m, nT_, bF_, fF_])]
 simp
theorem k_T : ∀ (k x : Nat), x < 10 ^ k → x ≤ 4611686018427387904 → ∀ (s : Str) (n : Nat), k + 1 ≤ n → s.b.length + k ≤ 1000 →
  ∃ t, I_ (σ := Int × Str) (ρ := Str) (un2 fun x54 x56 => if (decide (0 < x54)) = true then bd (cat (⟨[mkB (c_ 48 (b_d x54 10))]⟩ : Str) x56) fun x89 => some (.next (d_i x54 10, x89)) else some (.brk (x54, x56))) n ((x : Int), s) = some (.inl t) ∧ t.2.b.length ≤ s.b.length + k
 | 0, x, h, _, s, n, hn, _ => by
  obtain ⟨m, rfl⟩ : ∃ m, n = m + 1 := ⟨n - 1, by omega⟩
  have : x = 0 := by simp at h; omega
  subst this
  exact ⟨(0, s), rfl, by simp⟩
 | k + 1, x, h, hb, s, n, hn, hs => by
  obtain ⟨m, rfl⟩ : ∃ m, n = m + 1 := ⟨n - 1, by omega⟩
  unfold I_
  simp only [un2]
  by_cases h0 : 0 < x
  ·rw [dT_ (show (0 : Int) < (x : Int) by omega), j_I (by omega), q_5 (by omega) (by omega) (by omega)]
   simp only [fT_]
   rw [m_i (by rw [a_o]; simp only [lC_, List.length_nil]; omega), bd_some, show (x : Int) / 10 = ((x / 10 : Nat) : Int) by omega]
   simp only
   obtain ⟨t, h1, h2⟩ := k_T k (x / 10) (by rw [Nat.pow_succ] at h; omega) (by omega) ⟨[mkB (c_ 48 ((x : Int) % 10))] ++ s.b⟩ m (by omega) (by simp; omega)
   refine ⟨t, h1, ?_⟩
   simp only [List.length_append, lC_, List.length_nil] at h2
   omega
  ·rw [dF_ (show ¬ (0 : Int) < (x : Int) by omega)]
   exact ⟨_, rfl, by simp only; omega⟩
theorem k_U {n : Nat} (hn : 30 ≤ n) {k : Int} (h0 : 0 ≤ k) (hk : k ≤ 1152921504606846976) : ∃ t, d_0 n k = some t ∧ t.b.length ≤ 30 := by
 unfold d_0
 by_cases h : k ≤ 0
 ·rw [dT_ h]; exact ⟨_, rfl, by simp⟩
 ·rw [dF_ h]
  simp only [bF_, fF_]
  obtain ⟨t, h1, h2⟩ := k_T 20 k.toNat (by omega) (by omega) ⟨[]⟩ n (by omega) (by simp)
  rw [show ((k.toNat : Nat) : Int) = k by omega] at h1
  rw [h1]
  simp only [List.length_nil] at h2
  simp only [bd_some, el_inl, un2]
  rw [m_i (by rw [a_o]; simp only [lC_, List.length_nil]; omega)]
  exact ⟨_, rfl, by simp only [List.length_append, lC_, List.length_nil]; omega⟩
theorem o_o {α : Type} {l : List α} (f : Nat → α) {j : Nat} (hj : j < l.length) : ((List.range j).map f ++ l.drop j).set j (f j) = (List.range (j + 1)).map f ++ l.drop (j + 1) := by
 rw [List.set_append_right _ _ (by simp), show j - ((List.range j).map f).length = 0 by simp, dC_ hj, List.set_cons_zero, List.range_succ, List.map_append, List.append_assoc]
 rfl
theorem j_5 {α ρ : Type} {l : List α} (f : Int → α) {k : Int} (h0 : 0 ≤ k) (hk : k + l.length ≤ 1152921504606846976) {n : Nat} (hn : l.length < n) {step : List α × Int × Int → Option (Out (List α × Int × Int) ρ)}
  (hs : ∀ (c : List α) (j : Nat) (x : Int), c.length = l.length → 0 ≤ x → x < 1152921504606846976 → j < c.length → step (c, x, (j : Int)) = some (.next (c.set j (f x), x + 1, ((j + 1 : Nat) : Int)))) (he : ∀ (c : List α) (j : Nat) (x : Int), ¬ j < c.length → step (c, x, (j : Int)) = some (.brk (c, x, (j : Int)))) :
  I_ step n (l, k, 0) = some (.inl ((List.range l.length).map (fun (i : Nat) => f (k + i)), k + l.length, (l.length : Int))) := by
 have h := e_q (step := step) (m := n) (fun j => ((List.range j).map (fun (i : Nat) => f (k + i)) ++ l.drop j, k + j, (j : Int))) (j0 := l.length) (s := ((List.range l.length).map (fun (i : Nat) => f (k + i)), k + l.length, (l.length : Int))) hn (fun j hj => by
  rw [hs _ j _ (by simp; omega) (by omega) (by omega) (by simp; omega), o_o (fun (i : Nat) => f (k + i)) hj]
  congr 4
  omega) (by
  rw [he _ _ _ (by simp)]
  simp)
 simpa using h
theorem k_V {n : Nat} {l : List UInt8} {k : Int} (h0 : 0 ≤ k) (hk : k + l.length ≤ 1152921504606846976) (hn : l.length < n) : e_H n l k = some (k + l.length, (List.range l.length).map (fun (i : Nat) => mkB (k + i))) := by
 unfold e_H
 rw [j_5 mkB h0 hk hn (fun c j x hcl hx0 hx hj => by
  simp only [un3]
  rw [dT_ (show (j : Int) < (c.length : Int) by omega), iP_ rfl, b_U hj, bd_some, ia_ (by omega) (by omega), ia_ (x := (j : Int)) (by omega) (by omega)]; rfl) (fun c j x hj => by
  simp only [un3]
  rw [dF_ (show ¬ (j : Int) < (c.length : Int) by omega)]; rfl)]
 rfl
theorem k_W {n : Nat} {l : List Int} {k : Int} (h0 : 0 ≤ k) (hk : k + l.length ≤ 1152921504606846976) (hn : l.length < n) : e_J n l k = some (k + l.length, (List.range l.length).map (fun (i : Nat) => k + i)) := by
 unfold e_J
 rw [j_5 (fun x => x) h0 hk hn (fun c j x hcl hx0 hx hj => by
  simp only [un3]
  rw [dT_ (show (j : Int) < (c.length : Int) by omega), iP_ rfl, b_U hj, bd_some, ia_ (by omega) (by omega), ia_ (x := (j : Int)) (by omega) (by omega)]; rfl) (fun c j x hj => by
  simp only [un3]
  rw [dF_ (show ¬ (j : Int) < (c.length : Int) by omega)]; rfl)]
 rfl
def c_q (n : Nat) (k : Int) : Str := (d_0 n k).getD default
theorem k_X {n : Nat} {l : List Str} {k : Int} (h0 : 0 ≤ k) (hk : k + l.length ≤ 1152921504606846976) (hn : l.length < n) (h30 : 30 ≤ n) : e_I n l k = some (k + l.length, (List.range l.length).map (fun (i : Nat) => c_q n (k + i))) := by
 unfold e_I
 rw [j_5 (c_q n) h0 hk hn (fun c j x hcl hx0 hx hj => by
  simp only [un3]
  obtain ⟨t, ht, _⟩ := k_U h30 hx0 (by omega : x ≤ 1152921504606846976)
  rw [dT_ (show (j : Int) < (c.length : Int) by omega), iP_ rfl, ht, bd_some, b_U hj, bd_some, ia_ (by omega) (by omega), ia_ (x := (j : Int)) (by omega) (by omega), show c_q n x = t by unfold c_q; rw [ht]; rfl]; rfl) (fun c j x hj => by
  simp only [un3]
  rw [dF_ (show ¬ (j : Int) < (c.length : Int) by omega)]; rfl)]
 rfl
theorem d_P {α : Type} {l : List α} {j : Nat} {x : α} (h : j < l.length) : idx (l.set j x) (j : Int) = some x := by
 rw [ix_ (by simpa using h)]; simp
theorem j_6 {α : Type} {l : List α} {j : Nat} {x y : α} (h : j < l.length) : upd (l.set j x) (j : Int) y = some (l.set j y) := by
 rw [b_U (by simpa using h)]; simp
end Go.Vw
