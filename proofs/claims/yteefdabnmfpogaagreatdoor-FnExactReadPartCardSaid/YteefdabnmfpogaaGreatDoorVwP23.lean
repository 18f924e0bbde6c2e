import Derived.Test.YteefdabnmfpogaaGreatDoorVwP24
namespace Go.Vw
open Go.RowKit Dat
def dep : Nat → Val → Prop
 | 0, v => v.items = []
 | m + 1, v => ∀ x ∈ v.items, dep m x
def vsz : Nat → Val → Nat
 | 0, v => v.bytes.length
 | m + 1, v => v.bytes.length + (v.items.map (fun x => 1 + vsz m x)).sum
def lsz (m : Nat) (l : List Val) : Nat := (l.map (fun x => 1 + vsz m x)).sum
theorem lsz_cons (m : Nat) (v : Val) (l : List Val) : lsz m (v :: l) = 1 + vsz m v + lsz m l := by unfold lsz; simp
theorem lsz_len (m : Nat) : ∀ l : List Val, l.length ≤ lsz m l
 | [] => by simp
 | v :: l => by rw [lsz_cons, List.length_cons]; have := lsz_len m l; omega
theorem lsz_mem {m : Nat} {v : Val} : ∀ {l : List Val}, v ∈ l → 1 + vsz m v ≤ lsz m l
 | a :: l, h => by
  rw [lsz_cons]
  rcases List.mem_cons.1 h with rfl | h
  ·omega
  ·have := lsz_mem (m := m) h; omega
theorem dep_mono : ∀ (k m : Nat) (v : Val), dep k v → k ≤ m → dep m v ∧ vsz m v = vsz k v
 | 0, 0, v, h, _ => ⟨h, rfl⟩
 | 0, m + 1, v, h, _ => by
  have h' : v.items = [] := h
  refine ⟨fun x hx => ?_, ?_⟩
  ·rw [h'] at hx; cases hx
  ·unfold vsz; rw [h']; simp
 | k + 1, m + 1, v, h, hk => by
  refine ⟨fun x hx => (dep_mono k m x (h x hx) (by omega)).1, ?_⟩
  unfold vsz
  congr 2
  exact List.map_congr_left fun x hx => by rw [(dep_mono k m x (h x hx) (by omega)).2]
section
variable {d : Desc} {b : List UInt8}
theorem termL_len {b : List UInt8} {t : UInt8} : ∀ f acc p c q, termL b t f acc p = some (c, q) → c.length + p ≤ acc.length + q
 | 0, _, _, _, _, h => by cases h
 | f + 1, acc, p, c, q, h => by
  unfold termL at h
  by_cases hlt : p < b.length
  ·rw [List.getElem?_eq_getElem hlt] at h
   simp only at h
   split at h
   ·cases h; omega
   ·split at h
    ·by_cases hl : p + 1 < b.length
     ·rw [List.getElem?_eq_getElem hl] at h
      have := termL_len f _ _ _ _ h
      simp at this; omega
     ·rw [List.getElem?_eq_none (by omega)] at h
      cases h
    ·have := termL_len f _ _ _ _ h
     simp at this; omega
  ·rw [List.getElem?_eq_none (by omega)] at h
   cases h
theorem rdB_nobytes {rs : List Rule} {r : Rule} {p : Nat} {rd : Int → Nat → RR} (h3 : r.kind ≠ 3) (h4 : r.kind ≠ 4) (h10 : r.kind ≠ 10) : (rdB rs b r p rd).1.bytes = [] := by
 unfold rdB
 split
 ·split <;> rfl
 split
 ·rfl
 rw [show (r.kind == 3) = false by simpa using h3, show (r.kind == 4) = false by simpa using h4, show (r.kind == 10) = false by simpa using h10]
 simp only [Bool.false_eq_true, if_false]
 split
 ·rfl
 ·unfold finC
  split
  ·split
   ·split
    ·rfl
    ·split <;> rfl
   ·rfl
  ·rfl
theorem bytes_le (hv : valid d = true) {i : Nat} (hi : i < d.rules.length) {at_ : Nat} (ha : at_ ≤ b.length) : (rdW d.rules b i at_).1.bytes.length + at_ ≤ (rdW d.rules b i at_).2.1 := by
 have hle := (rdW_le hv i hi at_ ha).1
 rw [rdW_eq hv hi ha] at *
 generalize d.rules[i] = r at *
 by_cases h3 : r.kind = 3
 ·clear hle; unfold rdB; rw [h3]; exact bytesP_le _ _
 by_cases h4 : r.kind = 4
 ·clear hle; unfold rdB; rw [h4]
  simp only [show ((4 : Int) == 1) = false from rfl, show ((4 : Int) == 2) = false from rfl, show ((4 : Int) == 3) = false from rfl, Bool.false_eq_true, if_false, beq_self_eq_true, if_true]
  cases hq : rdInt b (ruleAt d.rules (kid0 r)) at_ with
  | none => show 0 + at_ ≤ at_; omega
  | some n => simp only; have := bytesP_le (b := b) (at_ + (ruleAt d.rules (kid0 r)).size.toNat) n; omega
 by_cases h10 : r.kind = 10
 ·clear hle; unfold rdB; rw [h10]
  simp only [show ((10 : Int) == 1) = false from rfl, show ((10 : Int) == 2) = false from rfl, show ((10 : Int) == 3) = false from rfl, show ((10 : Int) == 4) = false from rfl, Bool.false_eq_true, if_false, beq_self_eq_true, if_true]
  cases hq : termP b at_ (r.bytes.getD 0 0) with
  | none => show 0 + at_ ≤ at_; omega
  | some x =>
   obtain ⟨c, q⟩ := x
   have := termL_len _ _ _ _ _ hq
   show c.length + at_ ≤ q
   simpa using this
 rw [rdB_nobytes h3 h4 h10]
 simpa using hle
theorem chain_size {rd : Int → Nat → RR} {L C m : Nat} : ∀ (ks : List Int) (p : Nat) (vs : List Val) (e : Nat), chain rd L ks p vs e → (∀ k ∈ ks, ∀ p, p ≤ L → (rd k p).2.2 = 0 → dep m (rd k p).1 ∧ 1 + vsz m (rd k p).1 ≤ C * ((rd k p).2.1 - p) ∧ p ≤ (rd k p).2.1) → (∀ x ∈ vs, dep m x) ∧ lsz m vs ≤ C * (e - p) ∧ p ≤ e
 | [], p, vs, e, h, _ => by
  obtain ⟨rfl, rfl⟩ := h
  exact ⟨fun x hx => (by cases hx), (by simp [lsz]), Nat.le_refl _⟩
 | k :: ks, p, vs, e, h, hk => by
  obtain ⟨h1, h2, ws, rfl, h3⟩ := h
  obtain ⟨g1, g2, g3⟩ := hk k List.mem_cons_self p h1 h2
  obtain ⟨i1, i2, i3⟩ := chain_size ks _ ws e h3 (fun k h => hk k (List.mem_cons_of_mem _ h))
  refine ⟨fun x hx => ?_, ?_, by omega⟩
  ·rcases List.mem_cons.1 hx with rfl | hx
   ·exact g1
   ·exact i1 x hx
  ·rw [lsz_cons]
   have : C * (e - p) = C * ((rd k p).2.1 - p) + C * (e - (rd k p).2.1) := by rw [← Nat.mul_add]; congr 1; omega
   omega
theorem val_size (hv : valid d = true) : ∀ (i : Nat), i < d.rules.length → ∀ at_, at_ ≤ b.length → dep i (rdW d.rules b i at_).1 ∧ ((rdW d.rules b i at_).2.2 = 0 → vsz i (rdW d.rules b i at_).1 ≤ (2 * i + 1) * ((rdW d.rules b i at_).2.1 - at_)) := by
 intro i
 induction i using Nat.strongRecOn with
 | _ i ih =>
  intro hi at_ ha
  by_cases hok : (rdW d.rules b i at_).2.2 = 0
  rotate_left
  ·rw [rdW_zV hok]
   refine ⟨?_, fun h => absurd h hok⟩
   cases i with
   | zero => rfl
   | succ i => intro x hx; cases hx
  have hr := valid_rule hv hi
  obtain ⟨ks, e, hk⟩ := rdW_ok hv hi ha hok
  have hb1 := bytes_le hv hi ha
  have hle := hk.le
  have hse := hk.se
  have hst := hk.st.1
  cases i with
  | zero =>
   have : ks = [] := by
    cases ks with
    | nil => rfl
    | cons k ks => have := hr.kids k (hk.kids k List.mem_cons_self); omega
   subst this
   have hi0 := hk.ch.1
   exact ⟨hi0, fun _ => by unfold vsz; omega⟩
  | succ i =>
   have hc := chain_size (m := i) (C := 2 * i + 2) ks _ _ _ hk.ch (fun k hkm p hp hok' => by
    have hkk := hr.kids k (hk.kids k hkm)
    have h1 := ih k.toNat (by omega) (by omega) p hp
    have h2 := h1.2 hok'
    have h3 := dep_mono k.toNat i _ h1.1 (by omega)
    have h4 := rdW_lt hv k.toNat (by omega) p hp hok'
    refine ⟨h3.1, ?_, by omega⟩
    rw [h3.2]
    have h5 : (2 * k.toNat + 1) * ((rdW d.rules b k.toNat p).2.1 - p) ≤ (2 * i + 1) * ((rdW d.rules b k.toNat p).2.1 - p) := Nat.mul_le_mul_right _ (by omega)
    have h6 : (2 * i + 2) * ((rdW d.rules b k.toNat p).2.1 - p) = (2 * i + 1) * ((rdW d.rules b k.toNat p).2.1 - p) + ((rdW d.rules b k.toNat p).2.1 - p) := by rw [← Nat.succ_mul]
    omega)
   refine ⟨hc.1, fun _ => ?_⟩
   unfold vsz
   have h7 : (2 * i + 2) * (e - startP d.rules d.rules[i + 1] at_) ≤ (2 * i + 2) * ((rdW d.rules b (i + 1) at_).2.1 - at_) := Nat.mul_le_mul_left _ (by omega)
   have h8 : (2 * (i + 1) + 1) * ((rdW d.rules b (i + 1) at_).2.1 - at_) = (2 * i + 2) * ((rdW d.rules b (i + 1) at_).2.1 - at_) + ((rdW d.rules b (i + 1) at_).2.1 - at_) := by rw [show 2 * (i + 1) + 1 = (2 * i + 2) + 1 by omega, Nat.succ_mul]
   have h9 := hc.2.1
   unfold lsz at h9
   omega
theorem part_size (path : Str) : dep 24 (partP d b path).1 ∧ vsz 24 (partP d b path).1 ≤ 20000 := by
 unfold partP
 cases hf : findP d b path with
 | none => exact ⟨fun x hx => (by cases hx), (by show 0 + 0 ≤ 20000; omega)⟩
 | some x =>
  obtain ⟨hv, hb4, h1, h2, h0⟩ := findP_ok hf
  have hl := (valid_len hv).2
  have hs := val_size hv x.1 h1 x.2 h2
  have hm := dep_mono x.1 24 _ hs.1 (by omega)
  have hle := (rdW_le hv x.1 h1 x.2 h2).2
  refine ⟨hm.1, ?_⟩
  rw [hm.2]
  have h3 := hs.2 h0
  have h4 : (2 * x.1 + 1) * ((rdW d.rules b x.1 x.2).2.1 - x.2) ≤ 49 * 400 := Nat.mul_le_mul (by omega) (by omega)
  omega
end
theorem forN_nextV {σ ρ : Type} {body : Nat → σ → Option (Out σ ρ)} (f : Nat → σ) {n : Nat} {s : σ} (h0 : s = f 0) (h : ∀ j, j < n → body j (f j) = some (.next (f (j + 1)))) : forN body n 0 s = some (.inl (f n)) := by
 subst h0; exact forN_next f h
theorem eqValueS_of {n : Nat} {l : List Val} (h : ∀ x ∈ l, M_laws_eqValue n x x = some true) : M_laws_eqValueS (n + 1) l l = some true := by
 show B_laws_eqValueS n (F_laws_eqValue n) l l = some true
 unfold B_laws_eqValueS
 rw [if_neg (by simp), forN_nextV (fun _ => ()) (n := l.length) rfl (fun j hj => by
  have := h l[j] (List.getElem_mem hj)
  rw [idx_get hj, bd_some, bd_some, show (F_laws_eqValue n).laws_eqValue l[j] l[j] = some true from this]; rfl)]
 rfl
theorem eq_value : ∀ (m n : Nat) (v : Val), dep m v → 2 * m + 2 ≤ n → M_laws_eqValue n v v = some true
 | m, n, v, h, hn => by
  obtain ⟨n, rfl⟩ : ∃ k, n = k + 2 := ⟨n - 2, by omega⟩
  have hitems : M_laws_eqValueS (n + 1) v.items v.items = some true := eqValueS_of fun x hx => by
   cases m with
   | zero => have h' : v.items = [] := h; rw [h'] at hx; cases hx
   | succ m => exact eq_value m n x (h x hx) (by omega)
  show B_laws_eqValue (n + 1) (F_laws_eqValue (n + 1)) v v = some true
  unfold B_laws_eqValue
  rw [if_neg (by simp), eq_byte, bd_some, if_neg (by simp), show (F_laws_eqValue (n + 1)).laws_eqValueS v.items v.items = some true from hitems]
  rfl
def markB (n : Nat) (k : Int) : List UInt8 := (List.range n).map (fun (i : Nat) => mkB (k + i))
def markL (f : Val → Int → Val × Int) : List Val → Int → List Val × Int
 | [], k => ([], k)
 | v :: l, k => ((f v k).1 :: (markL f l (f v k).2).1, (markL f l (f v k).2).2)
def markV : Nat → Val → Int → Val × Int
 | 0, v, k => (⟨k, markB v.bytes.length (k + 1), []⟩, k + 1 + v.bytes.length)
 | m + 1, v, k => (⟨k, markB v.bytes.length (k + 1), (markL (markV m) v.items (k + 1 + v.bytes.length)).1⟩, (markL (markV m) v.items (k + 1 + v.bytes.length)).2)
theorem markL_app (f : Val → Int → Val × Int) : ∀ (l m : List Val) (k : Int), markL f (l ++ m) k = ((markL f l k).1 ++ (markL f m (markL f l k).2).1, (markL f m (markL f l k).2).2)
 | [], m, k => rfl
 | v :: l, m, k => by rw [List.cons_append, markL, markL_app f l m, markL]; rfl
theorem markL_len (f : Val → Int → Val × Int) : ∀ (l : List Val) (k : Int), (markL f l k).1.length = l.length
 | [], k => rfl
 | v :: l, k => by rw [markL, List.length_cons, markL_len f l, List.length_cons]
theorem markL_end {m : Nat} (hf : ∀ v k, dep m v → (markV m v k).2 = k + 1 + vsz m v) : ∀ (l : List Val) (k : Int), (∀ x ∈ l, dep m x) → (markL (markV m) l k).2 = k + lsz m l
 | [], k, _ => by simp [markL, lsz]
 | v :: l, k, h => by
  rw [markL, markL_end hf l _ (fun x hx => h x (List.mem_cons_of_mem _ hx)), hf v k (h v List.mem_cons_self), lsz_cons]
  omega
theorem markV_end : ∀ (m : Nat) (v : Val) (k : Int), dep m v → (markV m v k).2 = k + 1 + vsz m v
 | 0, v, k, _ => rfl
 | m + 1, v, k, h => by
  unfold markV vsz
  simp only
  rw [markL_end (markV_end m) v.items _ h]
  unfold lsz
  omega
theorem idx_mid {α : Type} {A R : List α} {v : α} {j : Nat} (h : A.length = j) : idx (A ++ v :: R) (j : Int) = some v := by
 rw [idx_get (by simp; omega)]; simp [← h]
theorem set_mid {α : Type} {A R : List α} {v x : α} {j : Nat} (h : A.length = j) : (A ++ v :: R).set j x = A ++ x :: R := by
 subst h; simp
theorem upd_mid {α : Type} {A R : List α} {v x : α} {j : Nat} (h : A.length = j) : upd (A ++ v :: R) (j : Int) x = some (A ++ x :: R) := by
 rw [upd_nat (by simp; omega), set_mid h]
def mkAt (f : Val → Int → Val × Int) (l : List Val) (k : Int) (j : Nat) : Int := (markL f (l.take j) k).2
theorem mkAt_succ {f : Val → Int → Val × Int} {l : List Val} {k : Int} {j : Nat} (hj : j < l.length) : mkAt f l k (j + 1) = (f l[j] (mkAt f l k j)).2 ∧ (markL f (l.take (j + 1)) k).1 = (markL f (l.take j) k).1 ++ [(f l[j] (mkAt f l k j)).1] := by
 unfold mkAt
 rw [take_one hj, markL_app]
 exact ⟨rfl, rfl⟩
theorem lsz_take (m : Nat) : ∀ (l : List Val) (j : Nat) (hj : j < l.length), lsz m (l.take j) + 1 + vsz m l[j] ≤ lsz m l
 | v :: l, 0, _ => by rw [lsz_cons]; simp [lsz]
 | v :: l, j + 1, hj => by
  have := lsz_take m l j (by simpa using hj)
  rw [List.take_succ_cons, lsz_cons, lsz_cons]
  simp only [List.getElem_cons_succ]
  omega
theorem mkAt_eq {m : Nat} {l : List Val} (h : ∀ x ∈ l, dep m x) (k : Int) (j : Nat) : mkAt (markV m) l k j = k + lsz m (l.take j) := markL_end (markV_end m) _ k (fun x hx => h x (List.mem_of_mem_take hx))
theorem v_n (a : Int) (x : List UInt8) (l : List Val) : (Val.mk a x l).number = a := rfl
theorem v_b (a : Int) (x : List UInt8) (l : List Val) : (Val.mk a x l).bytes = x := rfl
theorem v_i (a : Int) (x : List UInt8) (l : List Val) : (Val.mk a x l).items = l := rfl
theorem markS_nil {n : Nat} (hn : 2 ≤ n) (k : Int) : M_laws_markValueS n [] k = some (k, []) := by
 obtain ⟨n, rfl⟩ : ∃ m, n = m + 2 := ⟨n - 2, by omega⟩
 rfl
theorem marks_of {m n : Nat} {l : List Val} {k : Int} (h : ∀ x ∈ l, dep m x) (h0 : 0 ≤ k) (hk : k + lsz m l ≤ 1152921504606846976) (hn : lsz m l < n)
  (hrec : ∀ x ∈ l, ∀ k : Int, 0 ≤ k → k + 1 + vsz m x ≤ 1152921504606846976 → ∃ y : List Val × Int, y.2 = (markV m x k).2 ∧ y.1 = (markV m x k).1.items ∧ M_laws_markValueS n x.items (k + 1 + x.bytes.length) = some (y.2, y.1)) :
  M_laws_markValueS (n + 1) l k = some ((markL (markV m) l k).2, (markL (markV m) l k).1) := by
 show B_laws_markValueS n (F_laws_markValueS n) l k = _
 unfold B_laws_markValueS
 have hlen := lsz_len m l
 have := iter_brk (σ := (List Val) × Int × Int) (ρ := Int × (List Val)) (step := un3 fun x499 x507 x509 => if (decide (x509 < (x499.length : Int))) = true then bd (idx x499 x509) fun x641 => bd (upd x499 x509 (⟨x507, x641.bytes, x641.items⟩ : Val)) fun x646 => bd (idx x646 x509) fun x655 => bd2 (M_laws_markByteS n x655.bytes (iadd x507 1)) fun r685 r688 => bd (idx (x646.set (x509).toNat (⟨x655.number, r688, x655.items⟩ : Val)) x509) fun x704 => bd2 ((F_laws_markValueS n).laws_markValueS x704.items r685) fun r732 r735 => some (.next (((x646.set (x509).toNat (⟨x655.number, r688, x655.items⟩ : Val)).set (x509).toNat (⟨x704.number, x704.bytes, r735⟩ : Val)), r732, iadd x509 1)) else some (.brk (x499, x507, x509)))
  (fun j => ((markL (markV m) (l.take j) k).1 ++ l.drop j, mkAt (markV m) l k j, ((j : Nat) : Int))) (s := ((markL (markV m) l k).1, (markL (markV m) l k).2, (l.length : Int))) (m := n) (j0 := l.length) (by omega) (fun j hj => by
   have hA : (markL (markV m) (l.take j) k).1.length = j := by rw [markL_len]; simp; omega
   have hks := mkAt_eq h k j
   have hsz := lsz_take m l j hj
   have hmem := List.getElem_mem hj
   obtain ⟨y, y1, y2, y3⟩ := hrec l[j] hmem (mkAt (markV m) l k j) (by omega) (by omega)
   have hby : l[j].bytes.length ≤ vsz m l[j] := by cases m with | zero => exact Nat.le_refl _ | succ m => unfold vsz; omega
   simp only [un3]
   rw [List.drop_eq_getElem_cons hj]
   rw [decide_eq_true (by rw [List.length_append, hA, List.length_cons]; omega)]
   simp only [if_true, Int.toNat_natCast]
   rw [idx_mid hA, bd_some, upd_mid hA, bd_some, idx_mid hA, bd_some]
   simp only [v_n, v_b, v_i]
   rw [iadd_of (by omega) (by omega), mark_byte (l := l[j].bytes) (by omega) (by omega) (by omega)]
   simp only [bd2_some]
   rw [set_mid hA, idx_mid hA, bd_some]
   simp only [v_n, v_b, v_i]
   rw [show (F_laws_markValueS n).laws_markValueS l[j].items (mkAt (markV m) l k j + 1 + l[j].bytes.length) = some (y.2, y.1) from y3]
   simp only [bd2_some]
   rw [set_mid hA, iadd_of (x := (j : Int)) (by omega) (by omega), y1, y2]
   obtain ⟨e1, e2⟩ := mkAt_succ (f := markV m) (k := k) hj
   rw [e1, e2, List.append_assoc, List.singleton_append]
   have hv1 : (markV m l[j] (mkAt (markV m) l k j)).1 = ⟨mkAt (markV m) l k j, markB l[j].bytes.length (mkAt (markV m) l k j + 1), (markV m l[j] (mkAt (markV m) l k j)).1.items⟩ := by cases m <;> rfl
   rw [hv1]
   rfl) (by
   have hA : (markL (markV m) l k).1.length = l.length := markL_len _ _ _
   simp only [un3, List.take_length, List.drop_length, List.append_nil]
   rw [decide_eq_false (by omega)]
   simp only [Bool.false_eq_true, if_false]
   unfold mkAt
   rw [List.take_length])
 have e0 : mkAt (markV m) l k 0 = k := by unfold mkAt; rw [List.take_zero]; rfl
 simp only [List.take_zero, List.drop_zero, Int.natCast_zero, e0] at this
 have e1 : (markL (markV m) [] k).1 ++ l = l := rfl
 rw [e1] at this
 rw [this]
 rfl
theorem mark_values : ∀ (m n : Nat) (l : List Val) (k : Int), (∀ x ∈ l, dep m x) → 0 ≤ k → k + lsz m l ≤ 1152921504606846976 → lsz m l + m + 3 ≤ n → M_laws_markValueS n l k = some ((markL (markV m) l k).2, (markL (markV m) l k).1)
 | 0, n, l, k, h, h0, hk, hn => by
  obtain ⟨n, rfl⟩ : ∃ m, n = m + 1 := ⟨n - 1, by omega⟩
  refine marks_of h h0 hk (by omega) fun x hx k' h0' hk' => ⟨([], k' + 1 + x.bytes.length), rfl, rfl, ?_⟩
  rw [show x.items = [] from h x hx, markS_nil (by omega)]
 | m + 1, n, l, k, h, h0, hk, hn => by
  obtain ⟨n, rfl⟩ : ∃ m, n = m + 1 := ⟨n - 1, by omega⟩
  refine marks_of h h0 hk (by omega) fun x hx k' h0' hk' => ⟨((markL (markV m) x.items (k' + 1 + x.bytes.length)).1, (markL (markV m) x.items (k' + 1 + x.bytes.length)).2), rfl, rfl, ?_⟩
  have hs := lsz_mem (m := m + 1) hx
  have hv : vsz (m + 1) x = x.bytes.length + lsz m x.items := rfl
  show M_laws_markValueS n x.items (k' + 1 + x.bytes.length) = _
  exact mark_values m n x.items _ (h x hx) (by omega) (by omega) (by omega)
theorem held_bytes {m : Nat} {k : Int} (h0 : 0 ≤ k) (hk : k + m ≤ 1152921504606846976) : M_laws_heldByteS (markB m k) k = some (k + m) := by
 unfold M_laws_heldByteS
 rw [forN_nextV (fun j => k + (j : Int)) (n := (markB m k).length) (by simp) (fun j hj => by
  rw [idx_get hj]
  unfold markB at hj ⊢
  simp at hj
  simp only [bd_some, List.getElem_map, List.getElem_range]
  rw [iadd_of (x := k + (j : Int)) (by omega) (by omega)]
  simp only [bne_self_eq_false, Bool.false_eq_true, if_false]
  congr 2
  omega)]
 unfold markB
 simp
theorem held_of {m n : Nat} {l : List Val} {k : Int} (h : ∀ x ∈ l, dep m x) (h0 : 0 ≤ k) (hk : k + lsz m l ≤ 1152921504606846976)
  (hrec : ∀ x ∈ l, ∀ k : Int, 0 ≤ k → k + 1 + vsz m x ≤ 1152921504606846976 → M_laws_heldValueS n (markV m x k).1.items (k + 1 + x.bytes.length) = some (markV m x k).2) :
  M_laws_heldValueS (n + 1) (markL (markV m) l k).1 k = some (markL (markV m) l k).2 := by
 show B_laws_heldValueS n (F_laws_heldValueS n) _ k = _
 unfold B_laws_heldValueS
 rw [forN_nextV (mkAt (markV m) l k) (n := (markL (markV m) l k).1.length) (by unfold mkAt; rw [List.take_zero]; rfl) (fun j hj => by
  rw [markL_len] at hj
  have hA : (markL (markV m) (l.take j) k).1.length = j := by rw [markL_len]; simp; omega
  have hks := mkAt_eq h k j
  have hsz := lsz_take m l j hj
  have hmem := List.getElem_mem hj
  have hsp : (markL (markV m) l k).1 = (markL (markV m) (l.take j) k).1 ++ (markV m l[j] (mkAt (markV m) l k j)).1 :: (markL (markV m) (l.drop (j + 1)) (markV m l[j] (mkAt (markV m) l k j)).2).1 := by
   have : l = l.take j ++ l[j] :: l.drop (j + 1) := by rw [← List.drop_eq_getElem_cons hj, List.take_append_drop]
   conv => lhs; rw [this, markL_app]
   rfl
  have hby : l[j].bytes.length ≤ vsz m l[j] := by cases m with | zero => exact Nat.le_refl _ | succ m => unfold vsz; omega
  have hv1 : (markV m l[j] (mkAt (markV m) l k j)).1.number = mkAt (markV m) l k j := by cases m <;> rfl
  have hv2 : (markV m l[j] (mkAt (markV m) l k j)).1.bytes = markB l[j].bytes.length (mkAt (markV m) l k j + 1) := by cases m <;> rfl
  have he := markV_end m l[j] (mkAt (markV m) l k j) (h _ hmem)
  have hr := hrec l[j] hmem (mkAt (markV m) l k j) (by omega) (by omega)
  rw [hsp, idx_mid hA]
  simp only [bd_some, hv1, hv2, bne_self_eq_false, Bool.false_eq_true, if_false]
  rw [iadd_of (by omega) (by omega), held_bytes (by omega) (by omega), bd_some, decide_eq_false (by omega)]
  simp only [Bool.false_eq_true, if_false]
  rw [show (F_laws_heldValueS n).laws_heldValueS (markV m l[j] (mkAt (markV m) l k j)).1.items (mkAt (markV m) l k j + 1 + l[j].bytes.length) = some (markV m l[j] (mkAt (markV m) l k j)).2 from hr, bd_some, decide_eq_false (by omega)]
  simp only [Bool.false_eq_true, if_false]
  rw [(mkAt_succ hj).1])]
 rw [bd_some, el_inl]
 unfold mkAt
 rw [markL_len, List.take_length]
theorem held_values : ∀ (m n : Nat) (l : List Val) (k : Int), (∀ x ∈ l, dep m x) → 0 ≤ k → k + lsz m l ≤ 1152921504606846976 → m + 3 ≤ n → M_laws_heldValueS n (markL (markV m) l k).1 k = some (markL (markV m) l k).2
 | 0, n, l, k, h, h0, hk, hn => by
  obtain ⟨n, rfl⟩ : ∃ m, n = m + 1 := ⟨n - 1, by omega⟩
  refine held_of h h0 hk fun x hx k' h0' hk' => ?_
  obtain ⟨n, rfl⟩ : ∃ m, n = m + 1 := ⟨n - 1, by omega⟩
  rfl
 | m + 1, n, l, k, h, h0, hk, hn => by
  obtain ⟨n, rfl⟩ : ∃ m, n = m + 1 := ⟨n - 1, by omega⟩
  refine held_of h h0 hk fun x hx k' h0' hk' => ?_
  have hv : vsz (m + 1) x = x.bytes.length + lsz m x.items := rfl
  exact held_values m n x.items _ (h x hx) (by omega) (by omega) (by omega)
theorem mark_value {n : Nat} {v : Val} (hd : dep 24 v) (hs : vsz 24 v ≤ 20000) (hn : 30000 ≤ n) : ∃ (k : Int) (bs : List UInt8) (l : List Val), M_laws_markValue n v 1 = some (k, bs, l) ∧ 0 ≤ k ∧ M_laws_heldValue n ⟨v.number, bs, l⟩ 1 = some k := by
 have hv : vsz 24 v = v.bytes.length + lsz 23 v.items := rfl
 have hd' : ∀ x ∈ v.items, dep 23 x := hd
 have he := markL_end (markV_end 23) v.items (1 + v.bytes.length) hd'
 refine ⟨(markL (markV 23) v.items (1 + v.bytes.length)).2, markB v.bytes.length 1, (markL (markV 23) v.items (1 + v.bytes.length)).1, ?_, by omega, ?_⟩
 ·unfold M_laws_markValue
  rw [mark_byte (by omega) (by omega) (by omega)]
  simp only [bd2_some]
  rw [mark_values 23 n v.items _ hd' (by omega) (by omega) (by omega)]
  rfl
 ·unfold M_laws_heldValue
  simp only [v_b, v_i]
  rw [held_bytes (by omega) (by omega), bd_some, decide_eq_false (by omega)]
  simp only [Bool.false_eq_true, if_false]
  rw [held_values 23 n v.items _ hd' (by omega) (by omega) (by omega), bd_some, decide_eq_false (by omega)]
  rfl
theorem law_ReadPart {n : Nat} (hn : 4000000 ≤ n) {d : Desc} {b : List UInt8} {path : Str} (hd : LnD d) (hb : b.length ≤ LEN) (hp : path.b.length ≤ LEN) : M_laws_FnExactReadPart n d b path = some true := by
 have hMX := MXv; have hLEN := LENv
 unfold M_laws_FnExactReadPart
 by_cases h1 : (1048576 : Int) < (b.length : Int)
 ·rw [decide_eq_true h1]; rfl
 rw [decide_eq_false h1]
 simp only [Bool.false_eq_true, if_false]
 by_cases h3 : (1048576 : Int) < (path.b.length : Int)
 ·rw [decide_eq_true h3]; rfl
 rw [decide_eq_false h3]
 obtain ⟨r, hr, hr2⟩ := sz_desc hd
 simp only [Bool.false_eq_true, if_false]
 rw [hr, bd_some]
 by_cases h2 : r < 0
 ·rw [decide_eq_true h2]; rfl
 rw [decide_eq_false h2]
 have hs := (hr2.resolve_left h2).2
 have hbm : b.length ≤ MX := by omega
 have hpm : path.b.length ≤ MX := by omega
 simp only [Bool.false_eq_true, if_false, to_desc hs, to_byte hbm, bd_some, spec_ReadPartP hs (show 1048600 ≤ n by omega) hpm, impl_ReadPartP hs (show 1048600 ≤ n by omega) hpm]
 have hps := part_size (d := d) (b := b) path
 generalize partP d b path = u at *
 obtain ⟨v, ok⟩ := u
 simp only at hps
 have heq : M_laws_eqValue n v v = some true := eq_value 24 n v hps.1 (by omega)
 simp only [bd2_some, heq, bd_some, Bool.not_true, Bool.false_eq_true, if_false, bne_self_eq_false, eq_desc, eq_byte]
 obtain ⟨k', l', hm, hk0, hk1⟩ := mark_desc (n := n) hs (by omega)
 rw [hm]
 simp only [bd2_some]
 rw [mark_byte (by omega) (by omega) (by omega)]
 simp only [bd2_some]
 rw [decide_eq_false (by omega)]
 simp only [Bool.false_eq_true, if_false, bd_some]
 obtain ⟨k, bs, l, hm1, hm2, hm3⟩ := mark_value (n := n) hps.1 hps.2 (by omega)
 rw [hm1]
 simp only [bd3_some]
 rw [hm3]
 simp only [bd_some]
 rw [decide_eq_false (show ¬ k < 0 by omega)]
 simp only [Bool.false_eq_true, if_false, bne_self_eq_false]
end Go.Vw
