import Derived.Test.YtfdcdeahjejlmaaGreatDoorVwP30
namespace Go.Vw
open Go.RowKit Dat
def validR (r : Record) : Bool :=
 nameOk r.name && (decide (0 ≤ r.version) && decide (r.version ≤ 7)) && decide (r.data.length ≤ 400) && (r.kind == 1 || (r.kind == 2 && r.version == 0 && r.data.length == 0))
def bodyR (r : Record) : List UInt8 :=
 [mkB r.kind, mkB (r.name.b.length : Int)] ++ r.name.b ++ [mkB r.version, mkB (shrK .i64 ((packP r.data).length : Int) 8), mkB ((packP r.data).length : Int)] ++ packP r.data
def encP (r : Record) : List UInt8 := if validR r = true then bodyR r ++ [mkB (sumB (bodyR r))] else []
theorem validR_facts {r : Record} (h : validR r = true) : r.name.b.length ≤ 12 ∧ 0 ≤ r.version ∧ r.version ≤ 7 ∧ r.data.length ≤ 400 ∧ 1 ≤ r.kind ∧ r.kind ≤ 2 ∧ (packP r.data).length ≤ 800 := by
 unfold validR at h
 simp only [aE_, dE_, Bool.or_eq_true, beq_iff_eq] at h
 obtain ⟨⟨⟨h1, h2, h3⟩, h4⟩, h5⟩ := h
 have hp := packP_len _ _ (Nat.le_refl r.data.length)
 refine ⟨?_, h2, h3, h4, by omega, by omega, by omega⟩
 unfold nameOk at h1
 simp only [aE_, dE_] at h1
 exact h1.2.2
theorem encP_ne {r : Record} : encP r ≠ [] ↔ validR r = true := by
 unfold encP
 constructor
 ·intro h
  by_cases hv : validR r = true
  ·exact hv
  ·rw [iN_ hv] at h; exact absurd rfl h
 ·intro h; rw [iP_ h]; simp [bodyR]
theorem encP_len {r : Record} (h : validR r = true) : (encP r).length = r.name.b.length + 6 + (packP r.data).length := by
 unfold encP; rw [iP_ h]; simp [bodyR]; omega
def recOf (t : List UInt8) (data : List UInt8) : Record :=
 ⟨byteI (t.getD 0 0), ⟨(t.drop 2).take (t.getD 1 0).toNat⟩, byteI (t.getD ((t.getD 1 0).toNat + 2) 0), data⟩
def packedOf (t : List UInt8) : List UInt8 := (t.drop ((t.getD 1 0).toNat + 5)).take (t.length - (t.getD 1 0).toNat - 6)
def coreR (t : List UInt8) : Option Record :=
 match unpP (packedOf t) with
 | none => none
 | some data => if validR (recOf t data) = true ∧ encP (recOf t data) = t then some (recOf t data) else none
def decS (s : List UInt8) : Option (Record × Nat) :=
 match lenS s with
 | none => none
 | some k => match coreR (s.take k) with
  | none => none
  | some r => some (r, k)
theorem decS_len {s : List UInt8} {r : Record} {k : Nat} (h : decS s = some (r, k)) : lenS s = some k ∧ coreR (s.take k) = some r := by
 unfold decS at h
 split at h
 ·cases h
 ·rename_i k' hk
  split at h
  ·cases h
  ·rename_i r' hr; cases h; exact ⟨hk, hr⟩
theorem decS_pos {s : List UInt8} {r : Record} {k : Nat} (h : decS s = some (r, k)) : 6 ≤ k ∧ k ≤ s.length := by
 obtain ⟨c, hi, lo, _, _, _, hk, h2⟩ := lenS_le (decS_len h).1
 omega
theorem decS_valid {s : List UInt8} {r : Record} {k : Nat} (h : decS s = some (r, k)) : validR r = true ∧ encP r = s.take k := by
 have := (decS_len h).2
 unfold coreR at this
 split at this
 ·cases this
 ·split at this
  ·rename_i hv; cases this; exact hv
  ·cases this
theorem decS_take {s : List UInt8} {r : Record} {k m : Nat} (h : decS s = some (r, k)) (hk : k ≤ m) : decS (s.take m) = some (r, k) := by
 obtain ⟨h1, h2⟩ := decS_len h
 unfold decS
 rw [lenS_take h1 hk]
 simp only
 rw [List.take_take, Nat.min_eq_left hk, h2]
theorem decS_of_take {s : List UInt8} {r : Record} {k m : Nat} (h : decS (s.take m) = some (r, k)) : decS s = some (r, k) ∧ k ≤ m := by
 obtain ⟨h1, h2⟩ := decS_len h
 obtain ⟨h3, h4⟩ := lenS_of_take h1
 rw [List.take_take, Nat.min_eq_left h4] at h2
 refine ⟨?_, h4⟩
 unfold decS; rw [h3]; simp only; rw [h2]
def recF : Nat → List UInt8 → List Record × Nat
 | 0, _ => ([], 0)
 | n + 1, s => match decS s with
  | none => ([], 0)
  | some (r, k) => (r :: (recF n (s.drop k)).1, k + (recF n (s.drop k)).2)
def recP (s : List UInt8) : List Record × Nat := recF s.length s
theorem recF_more : ∀ (n m : Nat) (s : List UInt8), s.length ≤ n → s.length ≤ m → recF n s = recF m s
 | 0, 0, _, _, _ => rfl
 | 0, m + 1, s, h, _ => by
  have : s = [] := List.eq_nil_of_length_eq_zero (by omega)
  subst this; rfl
 | n + 1, 0, s, _, h => by
  have : s = [] := List.eq_nil_of_length_eq_zero (by omega)
  subst this; rfl
 | n + 1, m + 1, s, h1, h2 => by
  unfold recF
  cases hd : decS s with
  | none => rfl
  | some x =>
   obtain ⟨r, k⟩ := x
   have := decS_pos hd
   simp only
   rw [recF_more n m (s.drop k) (by rw [List.length_drop]; omega) (by rw [List.length_drop]; omega)]
theorem recP_none {s : List UInt8} (h : decS s = none) : recP s = ([], 0) := by
 unfold recP
 cases hl : s.length with
 | zero => rfl
 | succ n => unfold recF; rw [h]
theorem recP_some {s : List UInt8} {r : Record} {k : Nat} (h : decS s = some (r, k)) : recP s = (r :: (recP (s.drop k)).1, k + (recP (s.drop k)).2) := by
 have hp := decS_pos h
 unfold recP
 obtain ⟨n, hn⟩ : ∃ n, s.length = n + 1 := ⟨s.length - 1, by omega⟩
 rw [hn]
 conv => lhs; unfold recF
 rw [h]
 simp only
 rw [recF_more n (s.drop k).length _ (by rw [List.length_drop]; omega) (Nat.le_refl _)]
theorem recP_le : ∀ (n : Nat) (s : List UInt8), s.length ≤ n → (recP s).2 ≤ s.length ∧ 6 * (recP s).1.length ≤ s.length ∧ ∀ r ∈ (recP s).1, validR r = true
 | 0, s, h => by
  have : s = [] := List.eq_nil_of_length_eq_zero (by omega)
  subst this; exact ⟨Nat.le_refl _, Nat.le_refl _, fun r hr => by cases hr⟩
 | n + 1, s, h => by
  cases hd : decS s with
  | none => rw [recP_none hd]; exact ⟨Nat.zero_le _, Nat.zero_le _, fun r hr => by cases hr⟩
  | some x =>
   obtain ⟨r, k⟩ := x
   have hp := decS_pos hd
   obtain ⟨h1, h2, h3⟩ := recP_le n (s.drop k) (by rw [List.length_drop]; omega)
   rw [List.length_drop] at h1 h2
   rw [recP_some hd]
   refine ⟨by simp only; omega, by simp only [lC_]; omega, fun x hx => ?_⟩
   rcases List.mem_cons.1 hx with rfl | hx
   ·exact (decS_valid hd).1
   ·exact h3 x hx
def fileOf (r : Record) : StoredFile := ⟨r.name, r.version, r.data⟩
def appR (l : List StoredFile) (r : Record) : List StoredFile :=
 match l.findIdx? (fun f => f.name.b == r.name.b) with
 | some k => if r.kind = 1 then l.set k (fileOf r) else l.eraseIdx k
 | none => if r.kind = 1 then l ++ [fileOf r] else l
def filesP (s : List UInt8) : List StoredFile := (recP s).1.foldl appR []
def namesN (l : List StoredFile) : Prop := (l.map (·.name.b)).Nodup
section
variable {l : List StoredFile} {r : Record}
def stepR (r : Record) (x : StoredFile) : List StoredFile := if (x.name.b != r.name.b) = true then [x] else if r.kind = 1 then [fileOf r] else []
def sapR (l : List StoredFile) (r : Record) : List StoredFile := l.flatMap (stepR r) ++ if r.kind = 1 ∧ (l.any fun f => f.name.b == r.name.b) = false then [fileOf r] else []
theorem flat_none : ∀ {l : List StoredFile}, (l.any fun f => f.name.b == r.name.b) = false → l.flatMap (stepR r) = l
 | [], _ => rfl
 | x :: t, h => by
  simp only [List.any_cons, Bool.or_eq_false_iff] at h
  have : stepR r x = [x] := by unfold stepR; rw [iP_ (by simpa using h.1)]
  rw [List.flatMap_cons, this, flat_none h.2]; rfl
theorem any_find {l : List StoredFile} : (l.any fun f => f.name.b == r.name.b) = (l.findIdx? fun f => f.name.b == r.name.b).isSome := by
 induction l with
 | nil => rfl
 | cons x t ih =>
  rw [List.any_cons, List.findIdx?_cons, ih]
  cases x.name.b == r.name.b <;> simp
theorem flat_some : ∀ {l : List StoredFile} {k : Nat}, namesN l → (l.findIdx? fun f => f.name.b == r.name.b) = some k → l.flatMap (stepR r) = if r.kind = 1 then l.set k (fileOf r) else l.eraseIdx k
 | [], k, _, h => by simp at h
 | x :: t, k, hn, h => by
  rw [List.findIdx?_cons] at h
  unfold namesN at hn
  simp only [List.map_cons, List.nodup_cons] at hn
  rw [List.flatMap_cons]
  cases hx : x.name.b == r.name.b with
  | true =>
   rw [hx] at h
   simp only [fT_, oI_] at h
   subst h
   have hx' : x.name.b = r.name.b := by simpa using hx
   have hnone : (t.any fun f => f.name.b == r.name.b) = false := by
    rw [List.any_eq_false]
    intro y hy hc
    have : y.name.b = x.name.b := by rw [hx']; simpa using hc
    exact hn.1 (this ▸ List.mem_map_of_mem hy)
   rw [flat_none hnone]
   unfold stepR
   rw [iN_ (by simp [hx'])]
   split <;> rfl
  | false =>
   rw [hx] at h
   simp only [bF_, fF_, Option.map_eq_some_iff] at h
   obtain ⟨j, hj, rfl⟩ := h
   have hs : stepR r x = [x] := by unfold stepR; rw [iP_ (by simpa using hx)]
   rw [hs, flat_some hn.2 hj]
   split <;> rfl
theorem sapR_eq (hn : namesN l) : sapR l r = appR l r := by
 unfold sapR appR
 rw [any_find]
 cases h : l.findIdx? fun f => f.name.b == r.name.b with
 | none =>
  rw [flat_none (by rw [any_find, h]; rfl)]
  simp only [Option.isSome_none, and_true]
  split <;> simp
 | some k =>
  rw [flat_some hn h]
  simp only [Option.isSome_some, Bool.true_eq_false, and_false, fF_, List.append_nil]
theorem appR_names (hn : namesN l) : namesN (appR l r) := by
 unfold appR
 cases h : l.findIdx? fun f => f.name.b == r.name.b with
 | none =>
  simp only
  split
  ·unfold namesN at *
   rw [List.map_append, List.nodup_append]
   refine ⟨hn, by simp, fun a ha b hb he => ?_⟩
   simp only [List.map_cons, List.map_nil, List.mem_singleton, fileOf] at hb
   obtain ⟨x, hx, rfl⟩ := List.mem_map.1 ha
   have := List.findIdx?_eq_none_iff.1 h x hx
   rw [he, hb] at this; simp at this
  ·exact hn
 | some k =>
  obtain ⟨hk, hp, _⟩ := List.findIdx?_eq_some_iff_getElem.1 h
  simp only
  split
  ·unfold namesN at *
   have : (l.set k (fileOf r)).map (·.name.b) = l.map (·.name.b) := by
    rw [List.map_set]
    have h2 : (l.map (·.name.b))[k]? = some (fileOf r).name.b := by
     rw [List.getElem?_map, gG_ hk]
     simp only [Option.map_some, fileOf]
     congr 1; simpa using hp
    apply List.ext_getElem?
    intro i
    by_cases hi : k = i
    ·subst hi
     rw [List.getElem?_set_self (by simpa using hk), h2]
    ·rw [List.getElem?_set_ne hi]
   rw [this]; exact hn
  ·unfold namesN at *
   exact hn.sublist (List.Sublist.map _ (List.eraseIdx_sublist l k))
theorem appR_len : (appR l r).length ≤ l.length + 1 := by
 unfold appR
 split <;> split
 ·rw [List.length_set]; omega
 ·rename_i k _ _; have := List.length_eraseIdx_le l k; omega
 ·simp
 ·omega
end
end Go.Vw
