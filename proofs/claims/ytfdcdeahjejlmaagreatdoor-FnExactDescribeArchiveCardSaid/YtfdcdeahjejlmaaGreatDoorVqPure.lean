import Derived.Test.YtfdcdeahjejlmaaGreatDoorVqGl
import Derived.Laws.RangeAny
set_option linter.unusedVariables false
namespace Go.Vw
open Go.RowKit Dat
theorem r_c {x y : Int} (h1 : -9223372036854775808 ≤ x + y) (h2 : x + y ≤ 9223372036854775807) : c_ x y = x + y := by
 unfold c_; rw [IntKind.wrap_i64]; omega
theorem a_h {x y : Int} (h1 : -9223372036854775808 ≤ x - y) (h2 : x - y ≤ 9223372036854775807) : y_ x y = x - y := by
 unfold y_; rw [IntKind.wrap_i64]; omega
theorem k_p {x y : Int} (h1 : -9223372036854775808 ≤ x * y) (h2 : x * y ≤ 9223372036854775807) : b_6 x y = x * y := by
 unfold b_6; rw [IntKind.wrap_i64]; omega
theorem n_0 {x y : Int} (h0 : 0 ≤ x) (hx : x ≤ 9223372036854775807) (hy : 0 < y) : c_b x y = x / y := by
 unfold c_b
 rw [Int.tdiv_eq_ediv_of_nonneg h0, IntKind.wrap_i64]
 have h1 := Int.ediv_nonneg h0 (Int.le_of_lt hy)
 have h2 := Int.ediv_le_self y h0
 omega
theorem h_T {x y : Int} (h0 : 0 ≤ x) : a_C x y = x % y := by
 unfold a_C; exact Int.tmod_eq_emod_of_nonneg h0
theorem e_B {a b : UInt8} : byteI a = byteI b ↔ a = b := by
 unfold byteI
 constructor
 ·intro h
  have : a.toNat = b.toNat := by omega
  exact UInt8.toNat_inj.1 this
 ·rintro rfl; rfl
section
variable {α : Type}
theorem k_q {l : List α} {k : Nat} (h : k < l.length) : idx l (k : Int) = some l[k] := by rw [o_y]; simp [h]
theorem e_C {l : List α} {i : Int} (h0 : 0 ≤ i) (h : i.toNat < l.length) : idx l i = some l[i.toNat] := by
 unfold idx; rw [if_pos h0]; simp [h]
theorem d_h {l : List α} (h : 0 < l.length) : idx l 0 = some l[0] := k_q (k := 0) h
theorem n_1 {l : List α} (h : 1 < l.length) : idx l 1 = some l[1] := k_q (k := 1) h
theorem e_6 {l : List α} {a b : Int} (h0 : 0 ≤ a) (h1 : a ≤ b) (h2 : b ≤ l.length) : slc l a b = some ((l.take b.toNat).drop a.toNat) := by
 unfold slc; rw [if_pos ⟨h0, h1, h2⟩]
theorem a_Q {l : List α} {x : α} (h : l.length < LIM) : psh l x = some (l ++ [x]) := by unfold psh; rw [if_pos h]
theorem b_m {l m : List α} (h : l.length + m.length ≤ LIM) : app l m = some (l ++ m) := by unfold app; rw [if_pos h]
theorem c_n {s t : Str} (h : s.b.length + t.b.length ≤ LIM) : cat s t = some ⟨s.b ++ t.b⟩ := by unfold cat; rw [if_pos h]
theorem c_2 {l : List α} {k : Nat} {x : α} (h : k < l.length) : upd l (k : Int) x = some (l.set k x) := by
 unfold upd; rw [if_pos ⟨by omega, by omega⟩]; rfl
theorem e_D {z : α} {n : Nat} (h : n ≤ LIM) : mk0 z (n : Int) = some (List.replicate n z) := by
 unfold mk0; rw [if_pos ⟨by omega, by omega⟩]; simp
theorem r_d {z : α} {n : Int} (h0 : 0 ≤ n) (h : n ≤ LIM) : mk0 z n = some (List.replicate n.toNat z) := by
 unfold mk0; rw [if_pos ⟨h0, h⟩]
end
section
variable {σ ρ : Type}
theorem n_2 {body : Nat → σ → Option (Out σ ρ)} (st : Nat → σ) : ∀ n k, (∀ j, k ≤ j → j < k + n → body j (st j) = some (.next (st (j + 1)))) → w_ body n k (st k) = some (.inl (st (k + n)))
 | 0, k, _ => rfl
 | n + 1, k, h => by
  have h1 := h k (Nat.le_refl _) (by omega)
  have h2 := n_2 st n (k + 1) (fun j a b => h j (by omega) (by omega))
  unfold w_
  rw [h1]
  simp only
  rw [h2, show k + 1 + n = k + (n + 1) by omega]
theorem b_n {body : Nat → σ → Option (Out σ ρ)} (st : Nat → σ) {n : Nat} (h : ∀ j, j < n → body j (st j) = some (.next (st (j + 1)))) : w_ body n 0 (st 0) = some (.inl (st n)) := by
 have := n_2 st n 0 (fun j _ b => h j (by omega))
 simpa using this
theorem forN_ret' {body : Nat → σ → Option (Out σ ρ)} (st : Nat → σ) {r : ρ} : ∀ n k j0, k ≤ j0 → j0 < k + n → (∀ j, k ≤ j → j < j0 → body j (st j) = some (.next (st (j + 1)))) → body j0 (st j0) = some (.ret r) → w_ body n k (st k) = some (.inr r)
 | 0, k, j0, a, b, _, _ => by omega
 | n + 1, k, j0, a, b, h, hr => by
  unfold w_
  by_cases hk : k = j0
  ·subst hk; rw [hr]
  ·rw [h k (Nat.le_refl _) (by omega)]
   exact forN_ret' st n (k + 1) j0 (by omega) (by omega) (fun j c d => h j (by omega) d) hr
theorem n_3 {body : Nat → σ → Option (Out σ ρ)} (st : Nat → σ) {r : ρ} {n j0 : Nat} (h0 : j0 < n) (h : ∀ j, j < j0 → body j (st j) = some (.next (st (j + 1)))) (hr : body j0 (st j0) = some (.ret r)) : w_ body n 0 (st 0) = some (.inr r) :=
 forN_ret' st n 0 j0 (by omega) (by omega) (fun j _ b => h j b) hr
theorem f_I {body : Nat → Unit → Option (Out Unit ρ)} {n : Nat} (p : Nat → Bool) (r : Nat → ρ) (h : ∀ k, k < n → (∀ j, j < k → p j = false) → body k () = some (if p k = true then .ret (r k) else .next ())) :
  w_ body n 0 () = some (match (List.range n).find? p with | some k => .inr (r k) | none => .inl ()) := by
 cases hf : (List.range n).find? p with
 | none =>
  have hn : ∀ k, k < n → p k = false := fun k hk => by
   have := List.find?_eq_none.1 hf k (List.mem_range.2 hk)
   simpa using this
  exact b_n (fun _ => ()) (fun j hj => by rw [h j hj (fun i hi => hn i (by omega)), hn j hj]; rfl)
 | some k =>
  obtain ⟨hp, as, bs, hl, has⟩ := List.find?_eq_some_iff_append.1 hf
  have hk : as.length < n ∧ as.length = k := by
   have h1 : as.length < (List.range n).length := by rw [hl]; simp
   simp at h1
   refine ⟨h1, ?_⟩
   have h2 : (List.range n)[as.length]? = some k := by rw [hl]; simp
   rw [List.getElem?_range h1] at h2
   exact Option.some.inj h2
  obtain ⟨h1, rfl⟩ := hk
  have hb : ∀ j, j < as.length → p j = false := fun j hj => by
   have h2 : (List.range n)[j]? = some (as[j]) := by rw [hl, List.getElem?_append_left hj]; simp
   rw [List.getElem?_range (by omega)] at h2
   have h3 := has as[j] (List.getElem_mem hj)
   rw [← Option.some.inj h2] at h3
   simpa using h3
  exact n_3 (fun _ => ()) h1 (fun j hj => by rw [h j (by omega) (fun i hi => hb i (by omega)), hb j hj]; rfl) (by rw [h _ h1 hb, if_pos hp])
theorem r_e {α : Type} (l : List α) (p : α → Bool) (q : Nat → Bool) (h : ∀ k (hk : k < l.length), q k = p l[k]) : (List.range l.length).any q = l.any p := by
 rw [Bool.eq_iff_iff]
 simp only [List.any_eq_true, List.mem_range]
 constructor
 ·rintro ⟨k, hk, hq⟩; exact ⟨l[k], List.getElem_mem hk, by rw [← h k hk]; exact hq⟩
 ·rintro ⟨x, hx, hp⟩
  obtain ⟨k, hk, rfl⟩ := List.getElem_of_mem hx
  exact ⟨k, hk, by rw [h k hk]; exact hp⟩
theorem d_i {body : Nat → Unit → Option (Out Unit ρ)} {n : Nat} (p : Nat → Bool) (r : ρ) (h : ∀ k, k < n → (∀ j, j < k → p j = false) → body k () = some (if p k = true then .ret r else .next ())) :
  w_ body n 0 () = some (if (List.range n).any p = true then .inr r else .inl ()) := by
 rw [f_I p (fun _ => r) h]
 cases hf : (List.range n).find? p with
 | none =>
  have : (List.range n).any p = false := by
   rw [List.any_eq_false]; exact fun x hx => by simpa using List.find?_eq_none.1 hf x hx
  rw [this]; rfl
 | some k =>
  have : (List.range n).any p = true := List.any_eq_true.2 ⟨k, List.mem_of_find?_eq_some hf, List.find?_some hf⟩
  rw [this]; rfl
theorem c_N {α : Type} {body : Nat → Unit → Option (Out Unit ρ)} {l : List α} (p : α → Bool) (r : ρ) (h : ∀ k (hk : k < l.length), body k () = some (if p l[k] = true then .ret r else .next ())) :
  w_ body l.length 0 () = some (if l.any p = true then .inr r else .inl ()) := by
 rw [d_i (fun k => if hk : k < l.length then p l[k] else false) r (fun k hk _ => by rw [dif_pos hk]; exact h k hk)]
 rw [r_e l p _ (fun k hk => by rw [dif_pos hk])]
theorem iter_brk' {step : σ → Option (Out σ ρ)} (st : Nat → σ) {s : σ} : ∀ m k j0, k ≤ j0 → j0 < k + m → (∀ j, k ≤ j → j < j0 → step (st j) = some (.next (st (j + 1)))) → step (st j0) = some (.brk s) → E_ step m (st k) = some (.inl s)
 | 0, k, j0, a, b, _, _ => by omega
 | m + 1, k, j0, a, b, h, hr => by
  unfold E_
  by_cases hk : k = j0
  ·subst hk; rw [hr]
  ·rw [h k (Nat.le_refl _) (by omega)]
   exact iter_brk' st m (k + 1) j0 (by omega) (by omega) (fun j c d => h j (by omega) d) hr
theorem e_E {step : σ → Option (Out σ ρ)} (st : Nat → σ) {s : σ} {m j0 : Nat} (h0 : j0 < m) (h : ∀ j, j < j0 → step (st j) = some (.next (st (j + 1)))) (hr : step (st j0) = some (.brk s)) : E_ step m (st 0) = some (.inl s) :=
 iter_brk' st m 0 j0 (by omega) (by omega) (fun j _ b => h j b) hr
theorem iter_ret' {step : σ → Option (Out σ ρ)} (st : Nat → σ) {r : ρ} : ∀ m k j0, k ≤ j0 → j0 < k + m → (∀ j, k ≤ j → j < j0 → step (st j) = some (.next (st (j + 1)))) → step (st j0) = some (.ret r) → E_ step m (st k) = some (.inr r)
 | 0, k, j0, a, b, _, _ => by omega
 | m + 1, k, j0, a, b, h, hr => by
  unfold E_
  by_cases hk : k = j0
  ·subst hk; rw [hr]
  ·rw [h k (Nat.le_refl _) (by omega)]
   exact iter_ret' st m (k + 1) j0 (by omega) (by omega) (fun j c d => h j (by omega) d) hr
theorem r_f {step : σ → Option (Out σ ρ)} (st : Nat → σ) {r : ρ} {m j0 : Nat} (h0 : j0 < m) (h : ∀ j, j < j0 → step (st j) = some (.next (st (j + 1)))) (hr : step (st j0) = some (.ret r)) : E_ step m (st 0) = some (.inr r) :=
 iter_ret' st m 0 j0 (by omega) (by omega) (fun j _ b => h j b) hr
end
theorem n_4 {s : Str} {p : Nat} (h : p < s.b.length) (ha : s.b[p].toNat < 128) : dec s p = ((s.b[p].toNat : Int), 1) := by
 have h' : p < (⟨s.b.toArray⟩ : ByteArray).size := by simpa [ByteArray.size] using h
 have hb : (⟨s.b.toArray⟩ : ByteArray)[p]'h' = s.b[p] := rfl
 unfold dec
 rw [decode_ascii _ p h' (by rw [hb]; exact ha), hb]
theorem r_g {s : Str} {p : Nat} (h : p < s.b.length) (ha : 128 ≤ s.b[p].toNat) : 128 ≤ (dec s p).1 := by
 have h' : p < (⟨s.b.toArray⟩ : ByteArray).size := by simpa [ByteArray.size] using h
 have hb : (⟨s.b.toArray⟩ : ByteArray)[p]'h' = s.b[p] := rfl
 unfold dec
 have := (decode_high _ p h' (by rw [hb]; exact ha)).1
 simp only
 omega
abbrev bF_ := @Bool.false_eq_true
abbrev dT_ := @decide_eq_true
abbrev dF_ := @decide_eq_false
abbrev bQ_ := @beq_self_eq_true
abbrev mT_ := @List.mem_cons_of_mem
abbrev mS_ := @List.mem_cons_self
abbrev gE_ := @List.getElem_mem
abbrev oI_ := @Option.some.injEq
abbrev gG_ := @List.getElem?_eq_getElem
abbrev gD_ := @List.getD_eq_getElem?_getD
abbrev aE_ := @Bool.and_eq_true
abbrev dE_ := @decide_eq_true_eq
abbrev tN_ := @Int.toNat_natCast
abbrev gS_ := @List.getElem?_eq_some_iff
abbrev iP_ := @if_pos
abbrev iN_ := @if_neg
abbrev fF_ := @if_false
abbrev fT_ := @if_true
abbrev gN_ := @List.getElem?_eq_none
abbrev nT_ := @Bool.not_true
abbrev ix_ := @k_q
abbrev ia_ := @r_c
abbrev lC_ := @List.length_cons
abbrev bN_ := @bne_self_eq_false
abbrev dC_ := @List.drop_eq_getElem_cons
end Go.Vw
