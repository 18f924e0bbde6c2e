import Derived.Test.YtlbigkipbbhhmaaGreatDoorVwP11
namespace Go.Vw
open Go.RowKit Dat
variable {d : Desc} {b : List UInt8}
theorem indexP_len : (indexP d b).length ≤ 10000 := by
 unfold indexP
 cases h : okF d b
 ·simp
 ·obtain ⟨hv, hb, hlt, hroot, hok, hv1, hrf⟩ := okF_ok h
  simp only [iP_]
  exact ixW_small hv hb hlt ⟨[]⟩ (Nat.zero_le _) hok
theorem eq_entry (x : Entry) : M_laws_eqEntry x x = some true := by
 unfold M_laws_eqEntry
 simp only [bN_, bF_, fF_]
theorem eq_entries (l : List Entry) : M_laws_eqEntryS l l = some true := by
 unfold M_laws_eqEntryS
 rw [forN_next (fun _ => ()) (n := l.length) (fun j hj => by rw [ix_ hj]; simp only [bd_some, eq_entry, nT_, bF_, fF_])]
 simp
theorem mark_loop4 {α ρ : Type} {l : List α} (f : Int → α) {k : Int} (h0 : 0 ≤ k) (hk : k + 4 * l.length ≤ 1152921504606846976) {n : Nat} (hn : l.length < n) {step : List α × Int × Int → Option (Out (List α × Int × Int) ρ)}
  (hs : ∀ (c : List α) (j : Nat) (x : Int), c.length = l.length → 0 ≤ x → x < 1152921504606846973 → j < c.length → step (c, x, (j : Int)) = some (.next (c.set j (f x), x + 4, ((j + 1 : Nat) : Int)))) (he : ∀ (c : List α) (j : Nat) (x : Int), ¬ j < c.length → step (c, x, (j : Int)) = some (.brk (c, x, (j : Int)))) :
  iter step n (l, k, 0) = some (.inl ((List.range l.length).map (fun (i : Nat) => f (k + 4 * i)), k + 4 * l.length, (l.length : Int))) := by
 have h := iter_brk (step := step) (m := n) (fun j => ((List.range j).map (fun (i : Nat) => f (k + 4 * i)) ++ l.drop j, k + 4 * j, (j : Int))) (j0 := l.length) (s := ((List.range l.length).map (fun (i : Nat) => f (k + 4 * i)), k + 4 * l.length, (l.length : Int))) hn (fun j hj => by
  rw [hs _ j _ (by simp; omega) (by omega) (by omega) (by simp; omega), mark_set (fun (i : Nat) => f (k + 4 * i)) hj]
  congr 4
  omega) (by
  rw [he _ _ _ (by simp)]
  simp)
 simpa using h
def markE (n : Nat) (x : Int) : Entry := ⟨markS n x, x + 1, x + 2, x + 3⟩
theorem markS_eq {n : Nat} (h30 : 30 ≤ n) {k : Int} (h0 : 0 ≤ k) (hk : k ≤ 1152921504606846976) : M_laws_markText n k = some (markS n k) := by
 obtain ⟨t, ht, hl⟩ := mark_text h30 h0 hk
 unfold markS; rw [ht]; rfl
theorem mark_entry {n : Nat} {l : List Entry} {k : Int} (h0 : 0 ≤ k) (hk : k + 4 * l.length ≤ 1152921504606846976) (hn : l.length < n) (h30 : 30 ≤ n) : M_laws_markEntryS n l k = some (k + 4 * l.length, (List.range l.length).map (fun (i : Nat) => markE n (k + 4 * i))) := by
 unfold M_laws_markEntryS
 rw [mark_loop4 (markE n) h0 hk hn (fun c j x hcl hx0 hx hj => by
  simp only [un3]
  rw [dT_ (show (j : Int) < (c.length : Int) by omega), iP_ rfl, markS_eq h30 hx0 (by omega), bd_some, ix_ hj, bd_some, upd_nat hj, bd_some]
  rw [idx_set hj, bd_some, upd_set hj, bd_some, idx_set hj, bd_some, upd_set hj, bd_some, idx_set hj, bd_some, upd_set hj, bd_some]
  rw [ia_ (x := x) (by omega) (by omega), ia_ (x := x + 1) (by omega) (by omega), ia_ (x := x + 1 + 1) (by omega) (by omega), ia_ (x := x + 1 + 1 + 1) (by omega) (by omega), ia_ (x := (j : Int)) (by omega) (by omega)]
  unfold markE
  rw [show x + 1 + 1 = x + 2 by omega, show x + 2 + 1 = x + 3 by omega, show x + 3 + 1 = x + 4 by omega]
  rfl) (fun c j x hj => by
  simp only [un3]
  rw [dF_ (show ¬ (j : Int) < (c.length : Int) by omega)]; rfl)]
 rfl
theorem forN_nextAt {σ ρ : Type} {body : Nat → σ → Option (Out σ ρ)} (f : Nat → σ) {n : Nat} {s : σ} (h0 : s = f 0) (h : ∀ j, j < n → body j (f j) = some (.next (f (j + 1)))) : forN body n 0 s = some (.inl (f n)) := by
 subst h0; exact forN_next f h
theorem held_entry {n m : Nat} {k : Int} (h0 : 0 ≤ k) (hk : k + 4 * m ≤ 1152921504606846976) (h30 : 30 ≤ n) : M_laws_heldEntryS n ((List.range m).map (fun (i : Nat) => markE n (k + 4 * i))) k = some (k + 4 * m) := by
 unfold M_laws_heldEntryS
 rw [forN_nextAt (fun j => k + 4 * (j : Int)) (n := ((List.range m).map (fun (i : Nat) => markE n (k + 4 * (i : Int)))).length) (by simp) (fun j hj => by
  rw [ix_ hj]
  simp at hj
  simp only [bd_some, List.getElem_map, List.getElem_range, markE]
  rw [markS_eq h30 (by omega) (by omega)]
  rw [ia_ (x := k + 4 * (j : Int)) (by omega) (by omega), ia_ (x := k + 4 * (j : Int) + 1) (by omega) (by omega), ia_ (x := k + 4 * (j : Int) + 1 + 1) (by omega) (by omega), ia_ (x := k + 4 * (j : Int) + 1 + 1 + 1) (by omega) (by omega)]
  rw [show k + 4 * (j : Int) + 1 + 1 = k + 4 * (j : Int) + 2 by omega, show k + 4 * (j : Int) + 2 + 1 = k + 4 * (j : Int) + 3 by omega]
  simp only [bd_some, bN_, bF_, fF_]
  congr 2
  omega)]
 simp
end Go.Vw
