import Derived.Test.YtfdcdeahjejlmaaGreatDoorVwP38
import Derived.Test.YtfdcdeahjejlmaaGreatDoorVwZModels
namespace Go.Vw
open Go.RowKit Dat
section
variable {α : Type} (f : α → Int → α × Int)
def mkK : List α → Int → Int
 | [], k => k
 | x :: t, k => mkK t (f x k).2
def mkL : List α → Int → List α
 | [], _ => []
 | x :: t, k => (f x k).1 :: mkL t (f x k).2
theorem mkK_snoc (x : α) : ∀ (l : List α) (k : Int), mkK f (l ++ [x]) k = (f x (mkK f l k)).2
 | [], _ => rfl
 | _ :: t, _ => mkK_snoc x t _
theorem mkL_snoc (x : α) : ∀ (l : List α) (k : Int), mkL f (l ++ [x]) k = mkL f l k ++ [(f x (mkK f l k)).1]
 | [], _ => rfl
 | y :: t, k => congrArg ((f y k).1 :: ·) (mkL_snoc x t _)
theorem mkL_len : ∀ (l : List α) (k : Int), (mkL f l k).length = l.length
 | [], _ => rfl
 | _ :: t, _ => congrArg (· + 1) (mkL_len t _)
theorem take_snoc {l : List α} {j : Nat} (hj : j < l.length) : l.take (j + 1) = l.take j ++ [l[j]] := by
 rw [List.take_add_one, gG_ hj]; rfl
theorem mkL_get : ∀ (l : List α) (k : Int) (j : Nat) (hj : j < l.length), (mkL f l k)[j]'(by rw [mkL_len]; exact hj) = (f l[j] (mkK f (l.take j) k)).1
 | _ :: _, _, 0, _ => rfl
 | _ :: t, _, j + 1, hj => mkL_get t _ j (by simpa using hj)
theorem mkK_sum (m : α → Nat) (h : ∀ x k, (f x k).2 = k + m x) : ∀ (l : List α) (k : Int), mkK f l k = k + ((l.map m).sum : Nat)
 | [], k => by simp [mkK]
 | x :: t, k => by
  rw [mkK, mkK_sum m h t, h]
  simp only [List.map_cons, List.sum_cons]
  omega
theorem sum_take (m : α → Nat) {l : List α} {j : Nat} (hj : j < l.length) : ((l.take j).map m).sum + m l[j] ≤ (l.map m).sum := by
 have h : l.map m = (l.take j).map m ++ m l[j] :: (l.drop (j + 1)).map m := by
  rw [← List.map_cons, ← List.map_append, ← dC_ hj, List.take_append_drop]
 rw [h, List.sum_append, List.sum_cons]; omega
theorem mark_fold {ρ : Type} {l : List α} {k : Int} {n : Nat} (hn : l.length < n) (P : α → Int → Prop) (hP : ∀ j (hj : j < l.length), P l[j] (mkK f (l.take j) k)) {step : List α × Int × Int → Option (Out (List α × Int × Int) ρ)}
  (hs : ∀ (c : List α) (j : Nat) (x : Int) (hj : j < c.length), c.length = l.length → P c[j] x → step (c, x, (j : Int)) = some (.next (c.set j (f c[j] x).1, (f c[j] x).2, ((j + 1 : Nat) : Int)))) (he : ∀ (c : List α) (j : Nat) (x : Int), ¬ j < c.length → step (c, x, (j : Int)) = some (.brk (c, x, (j : Int)))) :
  iter step n (l, k, 0) = some (.inl (mkL f l k, mkK f l k, (l.length : Int))) := by
 have h := iter_brk (step := step) (m := n) (fun j => (mkL f (l.take j) k ++ l.drop j, mkK f (l.take j) k, (j : Int))) (j0 := l.length) (s := (mkL f l k, mkK f l k, (l.length : Int))) hn (fun j hj => by
  have hlt : (mkL f (l.take j) k).length = j := by rw [mkL_len, List.length_take]; omega
  have hlen : (mkL f (l.take j) k ++ l.drop j).length = l.length := by rw [List.length_append, hlt, List.length_drop]; omega
  have hg : (mkL f (l.take j) k ++ l.drop j)[j]'(by omega) = l[j] := by
   rw [List.getElem_append_right (by omega)]; simp [hlt]
  rw [hs _ j _ (by omega) hlen (by rw [hg]; exact hP j hj), hg, take_snoc hj, mkK_snoc, mkL_snoc, List.set_append_right _ _ (by omega), hlt, Nat.sub_self, dC_ hj, List.set_cons_zero, List.append_assoc]
  rfl) (by
  rw [he _ _ _ (by rw [List.length_append, mkL_len]; simp)]
  simp)
 simpa [mkL, mkK] using h
theorem held_fold {ρ : Type} {l : List α} {k : Int} (body : Nat → Int → Option (Out Int ρ))
  (hb : ∀ j (hj : j < l.length) (_ : j < (mkL f l k).length), (mkL f l k)[j] = (f l[j] (mkK f (l.take j) k)).1 → body j (mkK f (l.take j) k) = some (.next (f l[j] (mkK f (l.take j) k)).2)) :
  forN body (mkL f l k).length 0 k = some (.inl (mkK f l k)) := by
 have h := nextAt (body := body) (fun j => mkK f (l.take j) k) (n := (mkL f l k).length) (s := k) (by simp [mkK]) (fun j hj => by
  have hj' : j < l.length := by rw [mkL_len] at hj; exact hj
  rw [hb j hj' hj (mkL_get f l k j hj'), take_snoc hj', mkK_snoc])
 rw [h, mkL_len, List.take_length]
end
theorem markS_eqK {n : Nat} (h30 : 30 ≤ n) {k : Int} (h0 : 0 ≤ k) (hk : k ≤ 1152921504606846976) : M_laws_markText n k = some (markS n k) := by
 obtain ⟨t, ht, _⟩ := mark_text h30 h0 hk
 unfold markS; rw [ht]; rfl
theorem held_strK {n m : Nat} {k : Int} (h0 : 0 ≤ k) (hk : k + m ≤ 1152921504606846976) (h30 : 30 ≤ n) : M_laws_heldStringS n ((List.range m).map (fun (i : Nat) => markS n (k + i))) k = some (k + m) := by
 unfold M_laws_heldStringS
 rw [nextAt (fun j => k + (j : Int)) (n := ((List.range m).map (fun (i : Nat) => markS n (k + (i : Int)))).length) (by simp) (fun j hj => by
  rw [ix_ hj]
  simp at hj
  simp only [bd_some, List.getElem_map, List.getElem_range]
  rw [markS_eqK h30 (by omega) (by omega), bd_some]
  rw [ia_ (x := k + (j : Int)) (by omega) (by omega)]
  simp only [bN_, bF_, fF_]
  congr 2
  omega)]
 simp
def mR (r : Rule) : Nat := 4 + r.bytes.length + r.names.length + r.tags.length + r.kids.length
def fR (n : Nat) (r : Rule) (k : Int) : Rule × Int :=
 (⟨markS n k, k + 1, k + 1 + 1, (irem (k + 1 + 1 + 1) 3) == 0, (List.range r.bytes.length).map (fun (i : Nat) => mkB (k + 1 + 1 + 1 + 1 + i)), (List.range r.names.length).map (fun (i : Nat) => markS n (k + 1 + 1 + 1 + 1 + r.bytes.length + i)), (List.range r.tags.length).map (fun (i : Nat) => k + 1 + 1 + 1 + 1 + r.bytes.length + r.names.length + i), (List.range r.kids.length).map (fun (i : Nat) => k + 1 + 1 + 1 + 1 + r.bytes.length + r.names.length + r.tags.length + i)⟩,
  k + 1 + 1 + 1 + 1 + r.bytes.length + r.names.length + r.tags.length + r.kids.length)
theorem fR_two (n : Nat) (r : Rule) (k : Int) : (fR n r k).2 = k + mR r := by
 unfold fR mR; simp only; omega
def mD (d : Desc) : Nat := (d.rules.map mR).sum
def fD (n : Nat) (d : Desc) (k : Int) : Desc × Int := (⟨mkL (fR n) d.rules k⟩, mkK (fR n) d.rules k)
theorem fD_two (n : Nat) (d : Desc) (k : Int) : (fD n d k).2 = k + mD d := mkK_sum _ mR (fR_two n) _ _
theorem marks_rules {n : Nat} {l : List Rule} (hl : l.length ≤ MX) (hs : ∀ r ∈ l, SmR r) (hn : MX + 30 ≤ n) {k : Int} (h0 : 0 ≤ k) (hk : k + ((l.map mR).sum : Nat) ≤ 1152921504606846976) : M_laws_markRuleS n l k = some (mkK (fR n) l k, mkL (fR n) l k) := by
 have hMX := MXv
 unfold M_laws_markRuleS
 rw [mark_fold (fR n) (l := l) (k := k) (n := n) (by omega) (fun r x => SmR r ∧ 0 ≤ x ∧ x + mR r ≤ 1152921504606846976) (fun j hj => by
  have h1 := sum_take mR hj
  rw [mkK_sum _ mR (fR_two n)]
  exact ⟨hs _ (gE_ hj), by omega, by omega⟩) (fun a j x hja hal hp => by
   obtain ⟨hr, hx0, hx1⟩ := hp
   have hb := hr.bytes; have hnm := hr.names; have ht := hr.tags; have hkd := hr.kids
   unfold mR at hx1
   simp only [un3]
   rw [dT_ (show (j : Int) < (a.length : Int) by omega), iP_ rfl]
   rw [markS_eqK (n := n) (by omega) hx0 (by omega : x ≤ 1152921504606846976), bd_some, ix_ hja, bd_some, upd_nat hja, bd_some]
   generalize a[j] = r at *
   rw [idx_set hja, bd_some, upd_set hja, bd_some, idx_set hja, bd_some, upd_set hja, bd_some, idx_set hja, bd_some, upd_set hja, bd_some, idx_set hja, bd_some]
   simp only [tN_, List.set_set]
   rw [ia_ (x := x) (by omega) (by omega), ia_ (x := x + 1) (by omega) (by omega), ia_ (x := x + 1 + 1) (by omega) (by omega), ia_ (x := x + 1 + 1 + 1) (by omega) (by omega)]
   rw [mark_byte (by omega) (by omega) (by omega)]
   simp only [bd2_some]
   rw [idx_set hja, bd_some]
   simp only
   rw [mark_string (by omega) (by omega) (by omega) (by omega)]
   simp only [bd2_some]
   rw [idx_set hja, bd_some]
   simp only
   rw [mark_int (by omega) (by omega) (by omega)]
   simp only [bd2_some]
   rw [idx_set hja, bd_some]
   simp only
   rw [mark_int (by omega) (by omega) (by omega)]
   simp only [bd2_some]
   rw [ia_ (x := (j : Int)) (by omega) (by omega)]
   rfl) (fun a j x hj => by
   simp only [un3]
   rw [dF_ (show ¬ (j : Int) < (a.length : Int) by omega)]; rfl)]
 rfl
theorem marks_descs {n : Nat} {l : List Desc} (hl : l.length ≤ MX) (hs : ∀ d ∈ l, SmD d) (hn : MX + 30 ≤ n) {k : Int} (h0 : 0 ≤ k) (hk : k + ((l.map mD).sum : Nat) ≤ 1152921504606846976) : M_laws_markDescriptionS n l k = some (mkK (fD n) l k, mkL (fD n) l k) := by
 have hMX := MXv
 unfold M_laws_markDescriptionS
 rw [mark_fold (fD n) (l := l) (k := k) (n := n) (by omega) (fun d x => SmD d ∧ 0 ≤ x ∧ x + mD d ≤ 1152921504606846976) (fun j hj => by
  have h1 := sum_take mD hj
  rw [mkK_sum _ mD (fD_two n)]
  exact ⟨hs _ (gE_ hj), by omega, by omega⟩) (fun a j x hja hal hp => by
   obtain ⟨hr, hx0, hx1⟩ := hp
   simp only [un3]
   rw [dT_ (show (j : Int) < (a.length : Int) by omega), iP_ rfl, ix_ hja, bd_some, marks_rules hr.rules hr.each hn hx0 hx1]
   simp only [bd2_some]
   rw [ia_ (x := (j : Int)) (by omega) (by omega)]
   rfl) (fun a j x hj => by
   simp only [un3]
   rw [dF_ (show ¬ (j : Int) < (a.length : Int) by omega)]; rfl)]
 rfl
theorem held_bytesK {m : Nat} {k : Int} (h0 : 0 ≤ k) (hk : k + m ≤ 1152921504606846976) : M_laws_heldByteS ((List.range m).map (fun (i : Nat) => mkB (k + i))) k = some (k + m) := by
 unfold M_laws_heldByteS
 rw [nextAt (fun j => k + (j : Int)) (n := ((List.range m).map (fun (i : Nat) => mkB (k + (i : Int)))).length) (by simp) (fun j hj => by
  rw [ix_ hj]
  simp at hj
  simp only [bd_some, List.getElem_map, List.getElem_range]
  rw [ia_ (x := k + (j : Int)) (by omega) (by omega)]
  simp only [bN_, bF_, fF_]
  congr 2
  omega)]
 simp
theorem held_intsK {m : Nat} {k : Int} (h0 : 0 ≤ k) (hk : k + m ≤ 1152921504606846976) : M_laws_heldIntS ((List.range m).map (fun (i : Nat) => k + i)) k = some (k + m) := by
 unfold M_laws_heldIntS
 rw [nextAt (fun j => k + (j : Int)) (n := ((List.range m).map (fun (i : Nat) => k + (i : Int))).length) (by simp) (fun j hj => by
  rw [ix_ hj]
  simp at hj
  simp only [bd_some, List.getElem_map, List.getElem_range]
  rw [ia_ (x := k + (j : Int)) (by omega) (by omega)]
  simp only [bN_, bF_, fF_]
  congr 2
  omega)]
 simp
theorem held_rules {n : Nat} {l : List Rule} (hn : 30 ≤ n) {k : Int} (h0 : 0 ≤ k) (hk : k + ((l.map mR).sum : Nat) ≤ 1152921504606846976) : M_laws_heldRuleS n (mkL (fR n) l k) k = some (mkK (fR n) l k) := by
 unfold M_laws_heldRuleS
 rw [held_fold (fR n) _ (fun j hj hj' hg => by
  have h1 := sum_take mR hj
  have hx := mkK_sum _ mR (fR_two n) (l.take j) k
  generalize mkK (fR n) (l.take j) k = x at *
  rw [ix_ hj', hg]
  have hx0 : 0 ≤ x := by omega
  have hx1 : x + mR l[j] ≤ 1152921504606846976 := by omega
  generalize l[j] = r at *
  unfold mR at hx1
  simp only [bd_some]
  rw [markS_eqK (n := n) hn hx0 (by omega), bd_some]
  unfold fR
  simp only [bN_, bF_, fF_]
  rw [ia_ (x := x) (by omega) (by omega)]
  simp only [bN_, bF_, fF_]
  rw [ia_ (x := x + 1) (by omega) (by omega)]
  simp only [bN_, bF_, fF_]
  rw [ia_ (x := x + 1 + 1) (by omega) (by omega), ia_ (x := x + 1 + 1 + 1) (by omega) (by omega)]
  simp only [bN_, bF_, fF_]
  rw [held_bytesK (by omega) (by omega), bd_some, dF_ (by omega), iN_ (by simp), held_strK (by omega) (by omega) hn, bd_some, dF_ (by omega), iN_ (by simp), held_intsK (by omega) (by omega), bd_some, dF_ (by omega), iN_ (by simp), held_intsK (by omega) (by omega), bd_some, dF_ (by omega), iN_ (by simp)])]
 rfl
theorem held_descs {n : Nat} {l : List Desc} (hn : 30 ≤ n) {k : Int} (h0 : 0 ≤ k) (hk : k + ((l.map mD).sum : Nat) ≤ 1152921504606846976) : M_laws_heldDescriptionS n (mkL (fD n) l k) k = some (mkK (fD n) l k) := by
 unfold M_laws_heldDescriptionS
 rw [held_fold (fD n) _ (fun j hj hj' hg => by
  have h1 := sum_take mD hj
  have hx := mkK_sum _ mD (fD_two n) (l.take j) k
  generalize mkK (fD n) (l.take j) k = x at *
  rw [ix_ hj', hg]
  have hx0 : 0 ≤ x := by omega
  have hx1 : x + mD l[j] ≤ 1152921504606846976 := by omega
  generalize l[j] = d at *
  have h2 := fD_two n d x
  simp only [bd_some]
  rw [show (fD n d x).1.rules = mkL (fR n) d.rules x from rfl, held_rules hn hx0 hx1, bd_some, show mkK (fR n) d.rules x = (fD n d x).2 from rfl, dF_ (by omega)]
  rfl)]
 rfl
end Go.Vw
