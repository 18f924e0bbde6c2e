import Derived.Test.YtfdcdeahjejlmaaGreatDoorVqP34
set_option linter.unusedVariables false
namespace Go.Vw
open Go.RowKit Dat
theorem e_y {s : List UInt8} {i : Nat} (h : i < s.length) : idx s (i : Int) = some (s.getD i 0) := by
 rw [ix_ h, gD_, gG_ h]; rfl
theorem k_4 {s : List UInt8} {i : Nat} (h : i < s.length) : s[i]? = some (s.getD i 0) := by
 rw [gD_, gG_ h]; rfl
theorem k_5 {s : List UInt8} {i j : Nat} (h : i < j) : (s.take j).getD i 0 = s.getD i 0 := by
 rw [gD_, gD_, List.getElem?_take, iP_ h]
theorem q_n {b : List UInt8} {k i : Nat} : (b.drop k).getD i 0 = b.getD (k + i) 0 := by
 rw [gD_, gD_, e_2]
def nmS (s : List UInt8) : Nat := (s.getD 1 0).toNat
def szS (s : List UInt8) : Nat := 256 * (s.getD (nmS s + 3) 0).toNat + (s.getD (nmS s + 4) 0).toNat
theorem m_f (s : List UInt8) : nmS s < 256 := (s.getD 1 0).toNat_lt
theorem m_g (s : List UInt8) : szS s < 65536 := by
 unfold szS
 have h1 := (s.getD (nmS s + 3) 0).toNat_lt
 have h2 := (s.getD (nmS s + 4) 0).toNat_lt
 omega
theorem q_o {s : List UInt8} (h : s.length < 2) : b_E s = none := by
 unfold b_E; rw [gN_ (by omega)]
theorem q_p {s : List UInt8} (h : 2 ≤ s.length) : b_E s = if nmS s + 6 + szS s ≤ s.length then some (nmS s + 6 + szS s) else none := by
 unfold b_E
 rw [k_4 (show 1 < s.length by omega)]
 simp only
 by_cases h1 : nmS s + 4 < s.length
 ·have e1 := k_4 (show nmS s + 3 < s.length by omega)
  have e2 := k_4 h1
  unfold nmS at e1 e2
  rw [e1, e2]; rfl
 ·rw [iN_ (by omega)]
  have e2 : s[(s.getD 1 0).toNat + 4]? = none := gN_ (by unfold nmS at h1; omega)
  rw [e2]
  cases s[(s.getD 1 0).toNat + 3]? <;> rfl
def a_d (s data : List UInt8) : o_ := ⟨byteI (s.getD 0 0), ⟨(s.drop 2).take (nmS s)⟩, byteI (s.getD (nmS s + 2) 0), data⟩
def pkS (s : List UInt8) : List UInt8 := (s.drop (nmS s + 5)).take (szS s)
theorem m_h {s : List UInt8} (h : 2 ≤ s.length) : a_i s = if nmS s + 6 + szS s ≤ s.length then (match c_h (pkS s) with
  | none => none
  | some data => if a_G (a_d s data) = true ∧ a_t (a_d s data) = s.take (nmS s + 6 + szS s) then some (a_d s data, nmS s + 6 + szS s) else none) else none := by
 unfold a_i
 rw [q_p h]
 by_cases hl : nmS s + 6 + szS s ≤ s.length
 ·rw [iP_ hl, iP_ hl]
  simp only
  have e1 : (s.take (nmS s + 6 + szS s)).getD 1 0 = s.getD 1 0 := k_5 (by omega)
  have e0 : (s.take (nmS s + 6 + szS s)).getD 0 0 = s.getD 0 0 := k_5 (by omega)
  have e2 : (s.take (nmS s + 6 + szS s)).getD (nmS s + 2) 0 = s.getD (nmS s + 2) 0 := k_5 (by omega)
  have hn : ((s.take (nmS s + 6 + szS s)).getD 1 0).toNat = nmS s := by rw [e1]; rfl
  have ep : j_Y (s.take (nmS s + 6 + szS s)) = pkS s := by
   unfold j_Y pkS
   rw [hn, List.length_take, Nat.min_eq_left hl, List.drop_take, List.take_take]
   congr 1
   omega
  have er : ∀ data, f_A (s.take (nmS s + 6 + szS s)) data = a_d s data := by
   intro data
   unfold f_A a_d
   rw [hn, e0, e2, List.drop_take, List.take_take, show min (nmS s) (nmS s + 6 + szS s - 2) = nmS s by omega]
  unfold h_A
  rw [ep]
  cases c_h (pkS s) with
  | none => rfl
  | some data =>
   simp only [er]
   by_cases hv : a_G (a_d s data) = true ∧ a_t (a_d s data) = s.take (nmS s + 6 + szS s)
   ·rw [iP_ hv, iP_ hv]
   ·rw [iN_ hv, iN_ hv]
 ·rw [iN_ hl, iN_ hl]
theorem h_F {s : List UInt8} (h : s.length < 2) : a_i s = none := by unfold a_i; rw [q_o h]
def zeroR : o_ := ⟨0, ⟨[]⟩, 0, []⟩
def d_A (k : Nat) : Option (o_ × Nat) → o_ × Int × Bool
 | some (r, j) => (r, ((k + j : Nat) : Int), true)
 | none => (zeroR, (k : Int), false)
theorem q_q (x y : List UInt8) : e_Y x y = some (x == y) := by
 unfold e_Y
 by_cases hl : x.length = y.length
 ·rw [show ((x.length : Int) != (y.length : Int)) = false by simp [hl]]
  simp only [bF_, fF_]
  rw [d_i (fun k => decide (x[k]? ≠ y[k]?)) false (fun k hk _ => by
   rw [ix_ hk, ix_ (show k < y.length by omega), bd_some, bd_some]
   rw [show ((byteI x[k]) != (byteI (y[k]'(by omega)))) = decide (x[k]? ≠ y[k]?) by
    rw [gG_ hk, gG_ (show k < y.length by omega), Bool.eq_iff_iff, bne_iff_ne, dE_, ne_eq, ne_eq, e_B, oI_]]
   by_cases h : x[k]? ≠ y[k]?
   ·rw [dT_ h]; rfl
   ·rw [dF_ h]; rfl), bd_some]
  by_cases h : x = y
  ·subst h
   rw [show ((List.range x.length).any fun k => decide (x[k]? ≠ x[k]?)) = false by rw [List.any_eq_false]; intro k _; simp]
   simp [el]
  ·rw [show ((List.range x.length).any fun k => decide (x[k]? ≠ y[k]?)) = true by
    rw [List.any_eq_true]
    refine Classical.byContradiction fun hn => h (List.ext_getElem? fun i => Classical.byContradiction fun hi => hn ⟨i, List.mem_range.2 ?_, dT_ hi⟩)
    refine Classical.byContradiction fun hlt => hi ?_
    rw [gN_ (by omega), gN_ (by omega)]]
   simp [el, h]
 ·rw [show ((x.length : Int) != (y.length : Int)) = true by rw [bne_iff_ne]; omega, iP_ rfl]
  congr 1
  symm; rw [beq_eq_false_iff_ne]; rintro rfl; exact hl rfl
theorem q_r (h l : UInt8) : b_f .i64 (· ||| ·) (a_P .i64 (byteI h) 8) (byteI l) = ((256 * h.toNat + l.toNat : Nat) : Int) := by
 rw [j_Q (d_S h) (by have := d_R h; omega)]
 unfold b_8 byteI; omega
theorem q_s {l : List UInt8} {m : Nat} (h : m ≤ l.length) : cpy (List.replicate m 0) l = l.take m := by
 unfold cpy
 rw [List.length_replicate, List.drop_of_length_le (by rw [List.length_replicate]; exact h), List.append_nil]
theorem m_i {b : List UInt8} {k : Nat} (h : k ≤ b.length) : slc b (k : Int) (b.length : Int) = some (b.drop k) := by
 have := d_y (b := b) (k := k) (j := b.length - k) (by omega)
 rw [show ((k + (b.length - k) : Nat) : Int) = (b.length : Int) by omega] at this
 rw [this, List.take_of_length_le (by rw [List.length_drop]; omega)]
theorem m_j {b : List UInt8} (hb : b.length ≤ ML) {k : Nat} (hk : k ≤ b.length) {n : Nat} (hn : 1060100 ≤ n) : d_L n b (k : Int) = some (d_A k (a_i (b.drop k))) := by
 have hML := MLv; have hMX := MXv; have hLIM := a_e
 unfold d_L
 have hdl : (b.drop k).length = b.length - k := List.length_drop
 rw [dF_ (show ¬ (k : Int) < 0 by omega), dF_ (show ¬ (b.length : Int) < (k : Int) by omega)]
 simp only [bF_, fF_, bd_some]
 rw [a_h (by omega) (by omega)]
 by_cases h2 : b.length - k < 2
 ·rw [dT_ (by omega), iP_ rfl, h_F (by omega)]; rfl
 rw [dF_ (by omega), iN_ (by simp), m_i hk, bd_some]
 generalize hs : b.drop k = s at *
 have hc := m_f s
 have hz := m_g s
 have hbn : byteI (s.getD 1 0) = (nmS s : Int) := rfl
 rw [show (1 : Int) = ((1 : Nat) : Int) from rfl, e_y (show 1 < s.length by omega), bd_some, hbn, m_h (by omega)]
 rw [ia_ (y := 6) (by omega) (by omega)]
 by_cases h6 : s.length < nmS s + 6
 ·rw [dT_ (by omega), iP_ rfl, iN_ (by omega)]; rfl
 rw [dF_ (by omega), iN_ (by simp), ia_ (y := 3) (by omega) (by omega), ia_ (y := 4) (by omega) (by omega)]
 rw [show ((nmS s : Int) + 3) = ((nmS s + 3 : Nat) : Int) by omega, show ((nmS s : Int) + 4) = ((nmS s + 4 : Nat) : Int) by omega, e_y (by omega), bd_some, e_y (by omega), bd_some, q_r]
 rw [show 256 * (s.getD (nmS s + 3) 0).toNat + (s.getD (nmS s + 4) 0).toNat = szS s from rfl]
 rw [show ((nmS s : Int) + 6) = ((nmS s + 6 : Nat) : Int) by omega, ia_ (x := ((nmS s + 6 : Nat) : Int)) (by omega) (by omega)]
 by_cases hl : nmS s + 6 + szS s ≤ s.length
 ·rw [dF_ (by omega), iN_ (by simp), iP_ hl, e_D (by omega), bd_some, ia_ (y := 5) (by omega) (by omega), show ((nmS s : Int) + 5) = ((nmS s + 5 : Nat) : Int) by omega, m_i (by omega), bd_some, q_s (by rw [List.length_drop]; omega)]
  rw [show (s.drop (nmS s + 5)).take (szS s) = pkS s from rfl]
  have hpl : (pkS s).length ≤ 65536 := by unfold pkS; rw [List.length_take]; omega
  rw [q_h (by omega) (by omega)]
  rw [show (0 : Int) = ((0 : Nat) : Int) from rfl, e_y (show 0 < s.length by omega)]
  rw [ia_ (x := 2) (by omega) (by omega), show (2 : Int) + (nmS s : Int) = ((2 + nmS s : Nat) : Int) by omega, show (2 : Int) = ((2 : Nat) : Int) from rfl, d_y (by omega)]
  rw [ia_ (y := ((2 : Nat) : Int)) (by omega) (by omega), show (nmS s : Int) + ((2 : Nat) : Int) = ((nmS s + 2 : Nat) : Int) by omega, e_y (show nmS s + 2 < s.length by omega)]
  rw [show slc s ((0 : Nat) : Int) (((nmS s + 6 : Nat) : Int) + (szS s : Int)) = some (s.take (nmS s + 6 + szS s)) by
   have := d_y (b := s) (k := 0) (j := nmS s + 6 + szS s) (by omega)
   rw [Nat.zero_add, List.drop_zero] at this
   rw [← this]; congr 1]
  cases hu : c_h (pkS s) with
  | none => rfl
  | some data =>
   simp only [bd2_some, bd_some, nT_, bF_, fF_]
   rw [show (⟨byteI (s.getD 0 0), (⟨(s.drop 2).take (nmS s)⟩ : Str), byteI (s.getD (nmS s + 2) 0), data⟩ : o_) = a_d s data from rfl]
   rw [m_c (by omega), q_m (by omega)]
   simp only [bd_some]
   cases hv : a_G (a_d s data) with
   | false =>
    simp only [Bool.not_false, fT_, bd_some, bF_, false_and, fF_]; rfl
   | true =>
    simp only [nT_, bF_, fF_, true_and]
    rw [show h_Z (a_t (a_d s data)) (s.take (nmS s + 6 + szS s)) = some (a_t (a_d s data) == s.take (nmS s + 6 + szS s)) from rfl, bd_some, bd_some]
    by_cases he : a_t (a_d s data) = s.take (nmS s + 6 + szS s)
    ·rw [show (a_t (a_d s data) == s.take (nmS s + 6 + szS s)) = true by simpa using he, iN_ (by simp), iP_ he]
     unfold d_A
     simp only
     rw [ia_ (x := (k : Int)) (y := (nmS s : Int)) (by omega) (by omega), ia_ (x := (k : Int) + (nmS s : Int)) (by omega) (by omega), ia_ (x := (k : Int) + (nmS s : Int) + 6) (by omega) (by omega)]
     rw [show (k : Int) + (nmS s : Int) + 6 + (szS s : Int) = ((k + (nmS s + 6 + szS s) : Nat) : Int) by omega]
    ·rw [show (a_t (a_d s data) == s.take (nmS s + 6 + szS s)) = false by simpa using he, show (!false) = true from rfl, iP_ rfl, iN_ he]; rfl
 ·rw [dT_ (by omega), iP_ rfl, iN_ hl]; rfl
theorem q_t {s : List UInt8} (hl : nmS s + 6 + szS s ≤ s.length) (hu : c_h (pkS s) = none) : ¬ a_t (a_d s []) = s.take (nmS s + 6 + szS s) := by
 intro he
 have hv : a_G (a_d s []) = true := q_3.1 (by rw [he]; intro h; have := congrArg List.length h; rw [List.length_take, Nat.min_eq_left hl, List.length_nil] at this; omega)
 have h1 := l_W hv
 rw [he] at h1
 have h2 : (a_d s []).name.b.length = nmS s := by simp only [a_d, List.length_take, List.length_drop]; omega
 have h3 : (b_D (a_d s []).data).length = 0 := rfl
 rw [h2, h3, List.length_take] at h1
 have h4 : szS s = 0 := by omega
 unfold pkS at hu
 rw [h4, List.take_zero, q_0] at hu
 cases hu
theorem q_u {s : List UInt8} {i : Nat} (h : i + 2 ≤ s.length) : (s.drop i).take 2 = [s.getD i 0, s.getD (i + 1) 0] := by
 rw [dC_ (by omega), dC_ (by omega)]
 simp only [List.take_succ_cons, List.take_zero]
 rw [gD_, gD_, gG_, gG_]
 rfl
theorem q_v (h l : UInt8) : c_L [h, l] false = ((256 * h.toNat + l.toNat : Nat) : Int) := by
 simp only [c_L, bF_, fF_, List.foldl_cons, List.foldl_nil, b_8, byteI]
 omega
theorem slc_in {b : List UInt8} {k i j : Nat} (h : k + i + j ≤ b.length) : slc b ((k + i : Nat) : Int) ((k + i + j : Nat) : Int) = some (((b.drop k).drop i).take j) := by
 rw [d_y h, List.drop_drop]
theorem q_w {b : List UInt8} (hb : b.length ≤ ML) {k : Nat} (hk : k ≤ b.length) {n : Nat} (hn : 1060100 ≤ n) : e_Z n b (k : Int) = some (d_A k (a_i (b.drop k))) := by
 have hML := MLv; have hMX := MXv; have hLIM := a_e
 unfold e_Z
 have hdl : (b.drop k).length = b.length - k := List.length_drop
 rw [a_V, a_h (by omega) (by omega), dT_ (show (0 : Int) ≤ (k : Int) by omega), bd_some, Bool.true_and]
 by_cases h2 : b.length - k < 2
 ·rw [dF_ (by omega), h_F (by omega)]; rfl
 rw [dT_ (by omega)]
 simp only [nT_, bF_, fF_]
 have hg : ∀ i, k + i < b.length → idx b ((k + i : Nat) : Int) = some ((b.drop k).getD i 0) := fun i hi => by rw [e_y hi, q_n]
 have hsl : ∀ i j, k + i + j ≤ b.length → slc b ((k + i : Nat) : Int) ((k + i + j : Nat) : Int) = some (((b.drop k).drop i).take j) := fun i j h => slc_in h
 generalize hs : b.drop k = s at *
 have hc := m_f s
 have hz := m_g s
 have hbn : byteI (s.getD 1 0) = (nmS s : Int) := rfl
 rw [ia_ (x := (k : Int)) (y := 1) (by omega) (by omega), show ((k : Int) + 1) = ((k + 1 : Nat) : Int) by omega, hg 1 (by omega), bd_some, hbn, m_h (by omega)]
 rw [ia_ (x := (k : Int)) (y := 2) (by omega) (by omega), show ((k : Int) + 2) = ((k + 2 : Nat) : Int) by omega]
 rw [ia_ (x := ((k + 2 : Nat) : Int)) (y := (nmS s : Int)) (by omega) (by omega), show (((k + 2 : Nat) : Int) + (nmS s : Int)) = ((k + (2 + nmS s) : Nat) : Int) by omega]
 rw [ia_ (x := ((k + (2 + nmS s) : Nat) : Int)) (y := 3) (by omega) (by omega), ia_ (x := ((k + (2 + nmS s) : Nat) : Int)) (y := 1) (by omega) (by omega)]
 by_cases h5 : s.length < nmS s + 5
 ·rw [dT_ (by omega), iP_ rfl, iN_ (by omega)]; rfl
 rw [dF_ (by omega), iN_ (by simp)]
 rw [show (((k + (2 + nmS s) : Nat) : Int) + 1) = ((k + (nmS s + 3) : Nat) : Int) by omega, show (((k + (2 + nmS s) : Nat) : Int) + 3) = ((k + (nmS s + 3) + 2 : Nat) : Int) by omega, hsl (nmS s + 3) 2 (by omega), bd_some, q_u (by omega), l_H _ _ (by simp), bd_some, q_v]
 rw [show 256 * (s.getD (nmS s + 3) 0).toNat + (s.getD (nmS s + 3 + 1) 0).toNat = szS s from rfl]
 rw [show ((k + (nmS s + 3) + 2 : Nat) : Int) = ((k + (nmS s + 5) : Nat) : Int) by omega, ia_ (x := ((k + (nmS s + 5) : Nat) : Int)) (y := (szS s : Int)) (by omega) (by omega), show (((k + (nmS s + 5) : Nat) : Int) + (szS s : Int)) = ((k + (nmS s + 5) + szS s : Nat) : Int) by omega]
 by_cases hl : nmS s + 6 + szS s ≤ s.length
 ·rw [dF_ (by omega), iN_ (by simp), iP_ hl, hsl (nmS s + 5) (szS s) (by omega), bd_some]
  rw [show (s.drop (nmS s + 5)).take (szS s) = pkS s from rfl]
  have hpl : (pkS s).length ≤ 65536 := by unfold pkS; rw [List.length_take]; omega
  rw [q_i (by omega) (by omega)]
  have h0 := hg 0 (by omega)
  rw [Nat.add_zero] at h0
  have hm := hsl 2 (nmS s) (by omega)
  rw [show ((k + 2 + nmS s : Nat) : Int) = ((k + (2 + nmS s) : Nat) : Int) by omega] at hm
  have he := hsl 0 (nmS s + 6 + szS s) (by omega)
  rw [Nat.add_zero, List.drop_zero] at he
  rw [h0, hm, hg (2 + nmS s) (by omega), Nat.add_comm 2 (nmS s), ia_ (x := ((k + (nmS s + 5) + szS s : Nat) : Int)) (y := 1) (by omega) (by omega), show (((k + (nmS s + 5) + szS s : Nat) : Int) + 1) = ((k + (nmS s + 6 + szS s) : Nat) : Int) by omega, he]
  have fin : ∀ data, (bd (α := Bool) (if (((a_t (a_d s data)).length : Int) == 0) = true then some true else bd (some (s.take (nmS s + 6 + szS s))) fun x235 => bd (e_Y (a_t (a_d s data)) x235) fun r253 => some (!r253)) (fun x228 => if x228 = true then some ((⟨0, (⟨[]⟩ : Str), 0, ([] : List UInt8)⟩ : o_), (k : Int), false) else some (a_d s data, ((k + (nmS s + 6 + szS s) : Nat) : Int), true))) = some (d_A k (if a_G (a_d s data) = true ∧ a_t (a_d s data) = s.take (nmS s + 6 + szS s) then some (a_d s data, nmS s + 6 + szS s) else none)) := by
   intro data
   cases hv : a_G (a_d s data) with
   | false =>
    have : a_t (a_d s data) = [] := by unfold a_t; rw [hv]; rfl
    rw [this]
    simp only [List.length_nil, show ((((0 : Nat) : Int)) == 0) = true from rfl, fT_, bd_some, bF_, false_and, fF_]; rfl
   | true =>
    have hne := l_W hv
    rw [show (((a_t (a_d s data)).length : Int) == 0) = false by rw [beq_eq_false_iff_ne]; omega, iN_ (by simp), bd_some, q_q, bd_some, bd_some]
    by_cases he : a_t (a_d s data) = s.take (nmS s + 6 + szS s)
    ·rw [show (a_t (a_d s data) == s.take (nmS s + 6 + szS s)) = true by simpa using he, iN_ (by simp), iP_ ⟨rfl, he⟩]; rfl
    ·rw [show (a_t (a_d s data) == s.take (nmS s + 6 + szS s)) = false by simpa using he, show (!false) = true from rfl, iP_ rfl, iN_ (fun h => he h.2)]; rfl
  cases hu : c_h (pkS s) with
  | none =>
   simp only [bd2_some, bd_some]
   rw [show (⟨byteI (s.getD 0 0), (⟨(s.drop 2).take (nmS s)⟩ : Str), byteI (s.getD (nmS s + 2) 0), []⟩ : o_) = a_d s [] from rfl, m_e (by omega), bd_some]
   have := fin []
   rw [bd_some] at this
   rw [this, iN_ (fun h => q_t hl hu h.2)]
  | some data =>
   simp only [bd2_some, bd_some]
   rw [show (⟨byteI (s.getD 0 0), (⟨(s.drop 2).take (nmS s)⟩ : Str), byteI (s.getD (nmS s + 2) 0), data⟩ : o_) = a_d s data from rfl, m_e (by omega), bd_some]
   have := fin data
   rw [bd_some] at this
   exact this
 ·rw [dT_ (by omega), iP_ rfl, iN_ hl]; rfl
end Go.Vw
