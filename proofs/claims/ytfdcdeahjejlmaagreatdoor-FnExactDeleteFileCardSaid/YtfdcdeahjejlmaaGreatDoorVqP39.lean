import Derived.Test.YtfdcdeahjejlmaaGreatDoorVqP38
set_option linter.unusedVariables false
namespace Go.Vw
open Go.RowKit Dat
section
variable {α : Type} (f : α → Int → α × Int)
def mkK : List α → Int → Int
 | [], k => k
 | x :: t, k => mkK t (f x k).2
def mkL : List α → Int → List α
 | [], _ => []
 | x :: t, k => (f x k).1 :: mkL t (f x k).2
theorem k_v (x : α) : ∀ (l : List α) (k : Int), mkK f (l ++ [x]) k = (f x (mkK f l k)).2
 | [], _ => rfl
 | _ :: t, _ => k_v x t _
theorem m_M (x : α) : ∀ (l : List α) (k : Int), mkL f (l ++ [x]) k = mkL f l k ++ [(f x (mkK f l k)).1]
 | [], _ => rfl
 | y :: t, k => congrArg ((f y k).1 :: ·) (m_M x t _)
theorem e_D : ∀ (l : List α) (k : Int), (mkL f l k).length = l.length
 | [], _ => rfl
 | _ :: t, _ => congrArg (· + 1) (e_D t _)
theorem f_N {l : List α} {j : Nat} (hj : j < l.length) : l.take (j + 1) = l.take j ++ [l[j]] := by
 rw [List.take_add_one, gG_ hj]; rfl
theorem m_N : ∀ (l : List α) (k : Int) (j : Nat) (hj : j < l.length), (mkL f l k)[j]'(by rw [e_D]; exact hj) = (f l[j] (mkK f (l.take j) k)).1
 | _ :: _, _, 0, _ => rfl
 | _ :: t, _, j + 1, hj => m_N t _ j (by simpa using hj)
theorem d_f (m : α → Nat) (h : ∀ x k, (f x k).2 = k + m x) : ∀ (l : List α) (k : Int), mkK f l k = k + ((l.map m).sum : Nat)
 | [], k => by simp [mkK]
 | x :: t, k => by
  rw [mkK, d_f m h t, h]
  simp only [List.map_cons, List.sum_cons]
  omega
theorem i_6 (m : α → Nat) {l : List α} {j : Nat} (hj : j < l.length) : ((l.take j).map m).sum + m l[j] ≤ (l.map m).sum := by
 have h : l.map m = (l.take j).map m ++ m l[j] :: (l.drop (j + 1)).map m := by
  rw [← List.map_cons, ← List.map_append, ← dC_ hj, List.take_append_drop]
 rw [h, List.sum_append, List.sum_cons]; omega
theorem m_O {ρ : Type} {l : List α} {k : Int} {n : Nat} (hn : l.length < n) (P : α → Int → Prop) (hP : ∀ j (hj : j < l.length), P l[j] (mkK f (l.take j) k)) {step : List α × Int × Int → Option (Out (List α × Int × Int) ρ)}
  (hs : ∀ (c : List α) (j : Nat) (x : Int) (hj : j < c.length), c.length = l.length → P c[j] x → step (c, x, (j : Int)) = some (.next (c.set j (f c[j] x).1, (f c[j] x).2, ((j + 1 : Nat) : Int)))) (he : ∀ (c : List α) (j : Nat) (x : Int), ¬ j < c.length → step (c, x, (j : Int)) = some (.brk (c, x, (j : Int)))) :
  S_ step n (l, k, 0) = some (.inl (mkL f l k, mkK f l k, (l.length : Int))) := by
 have h := f_S (step := step) (m := n) (fun j => (mkL f (l.take j) k ++ l.drop j, mkK f (l.take j) k, (j : Int))) (j0 := l.length) (s := (mkL f l k, mkK f l k, (l.length : Int))) hn (fun j hj => by
  have hlt : (mkL f (l.take j) k).length = j := by rw [e_D, List.length_take]; omega
  have hlen : (mkL f (l.take j) k ++ l.drop j).length = l.length := by rw [List.length_append, hlt, List.length_drop]; omega
  have hg : (mkL f (l.take j) k ++ l.drop j)[j]'(by omega) = l[j] := by
   rw [List.getElem_append_right (by omega)]; simp [hlt]
  rw [hs _ j _ (by omega) hlen (by rw [hg]; exact hP j hj), hg, f_N hj, k_v, m_M, List.set_append_right _ _ (by omega), hlt, Nat.sub_self, dC_ hj, List.set_cons_zero, List.append_assoc]
  rfl) (by
  rw [he _ _ _ (by rw [List.length_append, e_D]; simp)]
  simp)
 simpa [mkL, mkK] using h
theorem m_P {ρ : Type} {l : List α} {k : Int} (body : Nat → Int → Option (Out Int ρ))
  (hb : ∀ j (hj : j < l.length) (_ : j < (mkL f l k).length), (mkL f l k)[j] = (f l[j] (mkK f (l.take j) k)).1 → body j (mkK f (l.take j) k) = some (.next (f l[j] (mkK f (l.take j) k)).2)) :
  u_ body (mkL f l k).length 0 k = some (.inl (mkK f l k)) := by
 have h := d_A (body := body) (fun j => mkK f (l.take j) k) (n := (mkL f l k).length) (s := k) (by simp [mkK]) (fun j hj => by
  have hj' : j < l.length := by rw [e_D] at hj; exact hj
  rw [hb j hj' hj (m_N f l k j hj'), f_N hj', k_v])
 rw [h, e_D, List.take_length]
end
theorem k_w {n : Nat} (h30 : 30 ≤ n) {k : Int} (h0 : 0 ≤ k) (hk : k ≤ 1152921504606846976) : c_T n k = some (c_L n k) := by
 obtain ⟨t, ht, _⟩ := l_O h30 h0 hk
 unfold c_L; rw [ht]; rfl
theorem q_H {n m : Nat} {k : Int} (h0 : 0 ≤ k) (hk : k + m ≤ 1152921504606846976) (h30 : 30 ≤ n) : g_H n ((List.range m).map (fun (i : Nat) => c_L n (k + i))) k = some (k + m) := by
 unfold g_H
 rw [d_A (fun j => k + (j : Int)) (n := ((List.range m).map (fun (i : Nat) => c_L n (k + (i : Int)))).length) (by simp) (fun j hj => by
  rw [ix_ hj]
  simp at hj
  simp only [bd_some, List.getElem_map, List.getElem_range]
  rw [k_w h30 (by omega) (by omega), bd_some]
  rw [ia_ (x := k + (j : Int)) (by omega) (by omega)]
  simp only [bN_, bF_, fF_]
  congr 2
  omega)]
 simp
def mR (r : c_) : Nat := 4 + r.bytes.length + r.names.length + r.tags.length + r.kids.length
def fR (n : Nat) (r : c_) (k : Int) : c_ × Int :=
 (⟨c_L n k, k + 1, k + 1 + 1, (b_m (k + 1 + 1 + 1) 3) == 0, (List.range r.bytes.length).map (fun (i : Nat) => mkB (k + 1 + 1 + 1 + 1 + i)), (List.range r.names.length).map (fun (i : Nat) => c_L n (k + 1 + 1 + 1 + 1 + r.bytes.length + i)), (List.range r.tags.length).map (fun (i : Nat) => k + 1 + 1 + 1 + 1 + r.bytes.length + r.names.length + i), (List.range r.kids.length).map (fun (i : Nat) => k + 1 + 1 + 1 + 1 + r.bytes.length + r.names.length + r.tags.length + i)⟩,
  k + 1 + 1 + 1 + 1 + r.bytes.length + r.names.length + r.tags.length + r.kids.length)
theorem k_x (n : Nat) (r : c_) (k : Int) : (fR n r k).2 = k + mR r := by
 unfold fR mR; simp only; omega
def mD (d : g_) : Nat := (d.rules.map mR).sum
def fD (n : Nat) (d : g_) (k : Int) : g_ × Int := (⟨mkL (fR n) d.rules k⟩, mkK (fR n) d.rules k)
theorem e_E (n : Nat) (d : g_) (k : Int) : (fD n d k).2 = k + mD d := d_f _ mR (k_x n) _ _
theorem q_I {n : Nat} {l : List c_} (hl : l.length ≤ MX) (hs : ∀ r ∈ l, SmR r) (hn : MX + 30 ≤ n) {k : Int} (h0 : 0 ≤ k) (hk : k + ((l.map mR).sum : Nat) ≤ 1152921504606846976) : g_G n l k = some (mkK (fR n) l k, mkL (fR n) l k) := by
 have hMX := MXv
 unfold g_G
 rw [m_O (fR n) (l := l) (k := k) (n := n) (by omega) (fun r x => SmR r ∧ 0 ≤ x ∧ x + mR r ≤ 1152921504606846976) (fun j hj => by
  have h1 := i_6 mR hj
  rw [d_f _ mR (k_x n)]
  exact ⟨hs _ (gE_ hj), by omega, by omega⟩) (fun a j x hja hal hp => by
   obtain ⟨hr, hx0, hx1⟩ := hp
   have hb := hr.bytes; have hnm := hr.names; have ht := hr.tags; have hkd := hr.kids
   unfold mR at hx1
   simp only [un3]
   rw [dT_ (show (j : Int) < (a.length : Int) by omega), iP_ rfl]
   rw [k_w (n := n) (by omega) hx0 (by omega : x ≤ 1152921504606846976), bd_some, ix_ hja, bd_some, c_d hja, bd_some]
   generalize a[j] = r at *
   rw [d_Z hja, bd_some, k_1 hja, bd_some, d_Z hja, bd_some, k_1 hja, bd_some, d_Z hja, bd_some, k_1 hja, bd_some, d_Z hja, bd_some]
   simp only [tN_, List.set_set]
   rw [ia_ (x := x) (by omega) (by omega), ia_ (x := x + 1) (by omega) (by omega), ia_ (x := x + 1 + 1) (by omega) (by omega), ia_ (x := x + 1 + 1 + 1) (by omega) (by omega)]
   rw [l_P (by omega) (by omega) (by omega)]
   simp only [bd2_some]
   rw [d_Z hja, bd_some]
   simp only
   rw [p_F (by omega) (by omega) (by omega) (by omega)]
   simp only [bd2_some]
   rw [d_Z hja, bd_some]
   simp only
   rw [l_Q (by omega) (by omega) (by omega)]
   simp only [bd2_some]
   rw [d_Z hja, bd_some]
   simp only
   rw [l_Q (by omega) (by omega) (by omega)]
   simp only [bd2_some]
   rw [ia_ (x := (j : Int)) (by omega) (by omega)]
   rfl) (fun a j x hj => by
   simp only [un3]
   rw [dF_ (show ¬ (j : Int) < (a.length : Int) by omega)]; rfl)]
 rfl
theorem q_J {n : Nat} {l : List g_} (hl : l.length ≤ MX) (hs : ∀ d ∈ l, SmD d) (hn : MX + 30 ≤ n) {k : Int} (h0 : 0 ≤ k) (hk : k + ((l.map mD).sum : Nat) ≤ 1152921504606846976) : h_i n l k = some (mkK (fD n) l k, mkL (fD n) l k) := by
 have hMX := MXv
 unfold h_i
 rw [m_O (fD n) (l := l) (k := k) (n := n) (by omega) (fun d x => SmD d ∧ 0 ≤ x ∧ x + mD d ≤ 1152921504606846976) (fun j hj => by
  have h1 := i_6 mD hj
  rw [d_f _ mD (e_E n)]
  exact ⟨hs _ (gE_ hj), by omega, by omega⟩) (fun a j x hja hal hp => by
   obtain ⟨hr, hx0, hx1⟩ := hp
   simp only [un3]
   rw [dT_ (show (j : Int) < (a.length : Int) by omega), iP_ rfl, ix_ hja, bd_some, q_I hr.rules hr.each hn hx0 hx1]
   simp only [bd2_some]
   rw [ia_ (x := (j : Int)) (by omega) (by omega)]
   rfl) (fun a j x hj => by
   simp only [un3]
   rw [dF_ (show ¬ (j : Int) < (a.length : Int) by omega)]; rfl)]
 rfl
theorem m_Q {m : Nat} {k : Int} (h0 : 0 ≤ k) (hk : k + m ≤ 1152921504606846976) : f_1 ((List.range m).map (fun (i : Nat) => mkB (k + i))) k = some (k + m) := by
 unfold f_1
 rw [d_A (fun j => k + (j : Int)) (n := ((List.range m).map (fun (i : Nat) => mkB (k + (i : Int)))).length) (by simp) (fun j hj => by
  rw [ix_ hj]
  simp at hj
  simp only [bd_some, List.getElem_map, List.getElem_range]
  rw [ia_ (x := k + (j : Int)) (by omega) (by omega)]
  simp only [bN_, bF_, fF_]
  congr 2
  omega)]
 simp
theorem m_R {m : Nat} {k : Int} (h0 : 0 ≤ k) (hk : k + m ≤ 1152921504606846976) : f_b ((List.range m).map (fun (i : Nat) => k + i)) k = some (k + m) := by
 unfold f_b
 rw [d_A (fun j => k + (j : Int)) (n := ((List.range m).map (fun (i : Nat) => k + (i : Int))).length) (by simp) (fun j hj => by
  rw [ix_ hj]
  simp at hj
  simp only [bd_some, List.getElem_map, List.getElem_range]
  rw [ia_ (x := k + (j : Int)) (by omega) (by omega)]
  simp only [bN_, bF_, fF_]
  congr 2
  omega)]
 simp
theorem q_K {n : Nat} {l : List c_} (hn : 30 ≤ n) {k : Int} (h0 : 0 ≤ k) (hk : k + ((l.map mR).sum : Nat) ≤ 1152921504606846976) : h_b n (mkL (fR n) l k) k = some (mkK (fR n) l k) := by
 unfold h_b
 rw [m_P (fR n) _ (fun j hj hj' hg => by
  have h1 := i_6 mR hj
  have hx := d_f _ mR (k_x n) (l.take j) k
  generalize mkK (fR n) (l.take j) k = x at *
  rw [ix_ hj', hg]
  have hx0 : 0 ≤ x := by omega
  have hx1 : x + mR l[j] ≤ 1152921504606846976 := by omega
  generalize l[j] = r at *
  unfold mR at hx1
  simp only [bd_some]
  rw [k_w (n := n) hn hx0 (by omega), bd_some]
  unfold fR
  simp only [bN_, bF_, fF_]
  rw [ia_ (x := x) (by omega) (by omega)]
  simp only [bN_, bF_, fF_]
  rw [ia_ (x := x + 1) (by omega) (by omega)]
  simp only [bN_, bF_, fF_]
  rw [ia_ (x := x + 1 + 1) (by omega) (by omega), ia_ (x := x + 1 + 1 + 1) (by omega) (by omega)]
  simp only [bN_, bF_, fF_]
  rw [m_Q (by omega) (by omega), bd_some, dF_ (by omega), iN_ (by simp), q_H (by omega) (by omega) hn, bd_some, dF_ (by omega), iN_ (by simp), m_R (by omega) (by omega), bd_some, dF_ (by omega), iN_ (by simp), m_R (by omega) (by omega), bd_some, dF_ (by omega), iN_ (by simp)])]
 rfl
theorem q_L {n : Nat} {l : List g_} (hn : 30 ≤ n) {k : Int} (h0 : 0 ≤ k) (hk : k + ((l.map mD).sum : Nat) ≤ 1152921504606846976) : h_c n (mkL (fD n) l k) k = some (mkK (fD n) l k) := by
 unfold h_c
 rw [m_P (fD n) _ (fun j hj hj' hg => by
  have h1 := i_6 mD hj
  have hx := d_f _ mD (e_E n) (l.take j) k
  generalize mkK (fD n) (l.take j) k = x at *
  rw [ix_ hj', hg]
  have hx0 : 0 ≤ x := by omega
  have hx1 : x + mD l[j] ≤ 1152921504606846976 := by omega
  generalize l[j] = d at *
  have h2 := e_E n d x
  simp only [bd_some]
  rw [show (fD n d x).1.rules = mkL (fR n) d.rules x from rfl, q_K hn hx0 hx1, bd_some, show mkK (fR n) d.rules x = (fD n d x).2 from rfl, dF_ (by omega)]
  rfl)]
 rfl
end Go.Vw
