import Derived.Test.YtfdcdeahjejlmaaGreatDoorVqP38
set_option linter.unusedVariables false
namespace Go.Vw
open Go.RowKit Dat
section
variable {α : Type} (f : α → Int → α × Int)
def mkK : List α → Int → Int
 | [], k => k
 | x :: t, k => mkK t (f x k).2
def mkL : List α → Int → List α
 | [], _ => []
 | x :: t, k => (f x k).1 :: mkL t (f x k).2
theorem m_v (x : α) : ∀ (l : List α) (k : Int), mkK f (l ++ [x]) k = (f x (mkK f l k)).2
 | [], _ => rfl
 | _ :: t, _ => m_v x t _
theorem m_w (x : α) : ∀ (l : List α) (k : Int), mkL f (l ++ [x]) k = mkL f l k ++ [(f x (mkK f l k)).1]
 | [], _ => rfl
 | y :: t, k => congrArg ((f y k).1 :: ·) (m_w x t _)
theorem k_a : ∀ (l : List α) (k : Int), (mkL f l k).length = l.length
 | [], _ => rfl
 | _ :: t, _ => congrArg (· + 1) (k_a t _)
theorem h_I {l : List α} {j : Nat} (hj : j < l.length) : l.take (j + 1) = l.take j ++ [l[j]] := by
 rw [List.take_add_one, gG_ hj]; rfl
theorem e_z (m : α → Nat) (h : ∀ x k, (f x k).2 = k + m x) : ∀ (l : List α) (k : Int), mkK f l k = k + ((l.map m).sum : Nat)
 | [], k => by simp [mkK]
 | x :: t, k => by
  rw [mkK, e_z m h t, h]
  simp only [List.map_cons, List.sum_cons]
  omega
theorem m_x (m : α → Nat) {l : List α} {j : Nat} (hj : j < l.length) : ((l.take j).map m).sum + m l[j] ≤ (l.map m).sum := by
 have h : l.map m = (l.take j).map m ++ m l[j] :: (l.drop (j + 1)).map m := by
  rw [← List.map_cons, ← List.map_append, ← dC_ hj, List.take_append_drop]
 rw [h, List.sum_append, List.sum_cons]; omega
theorem m_y {ρ : Type} {l : List α} {k : Int} {n : Nat} (hn : l.length < n) (P : α → Int → Prop) (hP : ∀ j (hj : j < l.length), P l[j] (mkK f (l.take j) k)) {step : List α × Int × Int → Option (Out (List α × Int × Int) ρ)}
  (hs : ∀ (c : List α) (j : Nat) (x : Int) (hj : j < c.length), c.length = l.length → P c[j] x → step (c, x, (j : Int)) = some (.next (c.set j (f c[j] x).1, (f c[j] x).2, ((j + 1 : Nat) : Int)))) (he : ∀ (c : List α) (j : Nat) (x : Int), ¬ j < c.length → step (c, x, (j : Int)) = some (.brk (c, x, (j : Int)))) :
  E_ step n (l, k, 0) = some (.inl (mkL f l k, mkK f l k, (l.length : Int))) := by
 have h := e_E (step := step) (m := n) (fun j => (mkL f (l.take j) k ++ l.drop j, mkK f (l.take j) k, (j : Int))) (j0 := l.length) (s := (mkL f l k, mkK f l k, (l.length : Int))) hn (fun j hj => by
  have hlt : (mkL f (l.take j) k).length = j := by rw [k_a, List.length_take]; omega
  have hlen : (mkL f (l.take j) k ++ l.drop j).length = l.length := by rw [List.length_append, hlt, List.length_drop]; omega
  have hg : (mkL f (l.take j) k ++ l.drop j)[j]'(by omega) = l[j] := by
   rw [List.getElem_append_right (by omega)]; simp [hlt]
  rw [hs _ j _ (by omega) hlen (by rw [hg]; exact hP j hj), hg, h_I hj, m_v, m_w, List.set_append_right _ _ (by omega), hlt, Nat.sub_self, dC_ hj, List.set_cons_zero, List.append_assoc]
  rfl) (by
  rw [he _ _ _ (by rw [List.length_append, k_a]; simp)]
  simp)
 simpa [mkL, mkK] using h
end
theorem m_z {n : Nat} (h30 : 30 ≤ n) {k : Int} (h0 : 0 ≤ k) (hk : k ≤ 1152921504606846976) : d_j n k = some (c_I n k) := by
 obtain ⟨t, ht, _⟩ := l_s h30 h0 hk
 unfold c_I; rw [ht]; rfl
theorem m_A {n m : Nat} {k : Int} (h0 : 0 ≤ k) (hk : k + m ≤ 1152921504606846976) (h30 : 30 ≤ n) : d_J n ((List.range m).map (fun (i : Nat) => c_I n (k + i))) k = some (k + m) := by
 unfold d_J
 rw [f_C (fun j => k + (j : Int)) (n := ((List.range m).map (fun (i : Nat) => c_I n (k + (i : Int)))).length) (by simp) (fun j hj => by
  rw [ix_ hj]
  simp at hj
  simp only [bd_some, List.getElem_map, List.getElem_range]
  rw [m_z h30 (by omega) (by omega), bd_some]
  rw [ia_ (x := k + (j : Int)) (by omega) (by omega)]
  simp only [bN_, bF_, fF_]
  congr 2
  omega)]
 simp
def mR (r : e_) : Nat := 4 + r.bytes.length + r.names.length + r.tags.length + r.kids.length
def fR (n : Nat) (r : e_) (k : Int) : e_ × Int :=
 (⟨c_I n k, k + 1, k + 1 + 1, (a_C (k + 1 + 1 + 1) 3) == 0, (List.range r.bytes.length).map (fun (i : Nat) => mkB (k + 1 + 1 + 1 + 1 + i)), (List.range r.names.length).map (fun (i : Nat) => c_I n (k + 1 + 1 + 1 + 1 + r.bytes.length + i)), (List.range r.tags.length).map (fun (i : Nat) => k + 1 + 1 + 1 + 1 + r.bytes.length + r.names.length + i), (List.range r.kids.length).map (fun (i : Nat) => k + 1 + 1 + 1 + 1 + r.bytes.length + r.names.length + r.tags.length + i)⟩,
  k + 1 + 1 + 1 + 1 + r.bytes.length + r.names.length + r.tags.length + r.kids.length)
theorem m_B (n : Nat) (r : e_) (k : Int) : (fR n r k).2 = k + mR r := by
 unfold fR mR; simp only; omega
def mD (d : g_) : Nat := (d.rules.map mR).sum
def fD (n : Nat) (d : g_) (k : Int) : g_ × Int := (⟨mkL (fR n) d.rules k⟩, mkK (fR n) d.rules k)
theorem k_b (n : Nat) (d : g_) (k : Int) : (fD n d k).2 = k + mD d := e_z _ mR (m_B n) _ _
theorem q_G {n : Nat} {l : List e_} (hl : l.length ≤ MX) (hs : ∀ r ∈ l, SmR r) (hn : MX + 30 ≤ n) {k : Int} (h0 : 0 ≤ k) (hk : k + ((l.map mR).sum : Nat) ≤ 1152921504606846976) : g_u n l k = some (mkK (fR n) l k, mkL (fR n) l k) := by
 have hMX := MXv
 unfold g_u
 rw [m_y (fR n) (l := l) (k := k) (n := n) (by omega) (fun r x => SmR r ∧ 0 ≤ x ∧ x + mR r ≤ 1152921504606846976) (fun j hj => by
  have h1 := m_x mR hj
  rw [e_z _ mR (m_B n)]
  exact ⟨hs _ (gE_ hj), by omega, by omega⟩) (fun a j x hja hal hp => by
   obtain ⟨hr, hx0, hx1⟩ := hp
   have hb := hr.bytes; have hnm := hr.names; have ht := hr.tags; have hkd := hr.kids
   unfold mR at hx1
   simp only [un3]
   rw [dT_ (show (j : Int) < (a.length : Int) by omega), iP_ rfl]
   rw [m_z (n := n) (by omega) hx0 (by omega : x ≤ 1152921504606846976), bd_some, ix_ hja, bd_some, c_2 hja, bd_some]
   generalize a[j] = r at *
   rw [d_Z hja, bd_some, j_L hja, bd_some, d_Z hja, bd_some, j_L hja, bd_some, d_Z hja, bd_some, j_L hja, bd_some, d_Z hja, bd_some]
   simp only [tN_, List.set_set]
   rw [ia_ (x := x) (by omega) (by omega), ia_ (x := x + 1) (by omega) (by omega), ia_ (x := x + 1 + 1) (by omega) (by omega), ia_ (x := x + 1 + 1 + 1) (by omega) (by omega)]
   rw [l_t (by omega) (by omega) (by omega)]
   simp only [bd2_some]
   rw [d_Z hja, bd_some]
   simp only
   rw [j_K (by omega) (by omega) (by omega) (by omega)]
   simp only [bd2_some]
   rw [d_Z hja, bd_some]
   simp only
   rw [l_u (by omega) (by omega) (by omega)]
   simp only [bd2_some]
   rw [d_Z hja, bd_some]
   simp only
   rw [l_u (by omega) (by omega) (by omega)]
   simp only [bd2_some]
   rw [ia_ (x := (j : Int)) (by omega) (by omega)]
   rfl) (fun a j x hj => by
   simp only [un3]
   rw [dF_ (show ¬ (j : Int) < (a.length : Int) by omega)]; rfl)]
 rfl
theorem q_H {n : Nat} {l : List g_} (hl : l.length ≤ MX) (hs : ∀ d ∈ l, SmD d) (hn : MX + 30 ≤ n) {k : Int} (h0 : 0 ≤ k) (hk : k + ((l.map mD).sum : Nat) ≤ 1152921504606846976) : g_S n l k = some (mkK (fD n) l k, mkL (fD n) l k) := by
 have hMX := MXv
 unfold g_S
 rw [m_y (fD n) (l := l) (k := k) (n := n) (by omega) (fun d x => SmD d ∧ 0 ≤ x ∧ x + mD d ≤ 1152921504606846976) (fun j hj => by
  have h1 := m_x mD hj
  rw [e_z _ mD (k_b n)]
  exact ⟨hs _ (gE_ hj), by omega, by omega⟩) (fun a j x hja hal hp => by
   obtain ⟨hr, hx0, hx1⟩ := hp
   simp only [un3]
   rw [dT_ (show (j : Int) < (a.length : Int) by omega), iP_ rfl, ix_ hja, bd_some, q_G hr.rules hr.each hn hx0 hx1]
   simp only [bd2_some]
   rw [ia_ (x := (j : Int)) (by omega) (by omega)]
   rfl) (fun a j x hj => by
   simp only [un3]
   rw [dF_ (show ¬ (j : Int) < (a.length : Int) by omega)]; rfl)]
 rfl
end Go.Vw
