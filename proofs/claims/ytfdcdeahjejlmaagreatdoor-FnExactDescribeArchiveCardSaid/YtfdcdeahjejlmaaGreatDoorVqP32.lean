import Derived.Test.YtfdcdeahjejlmaaGreatDoorVqP31
set_option linter.unusedVariables false
namespace Go.Vw
open Go.RowKit Dat
def ML : Nat := 1060000
theorem MLv : ML = 1060000 := rfl
theorem q_9 (x y : Int) : g_K x y = some (min x y) := by
 unfold g_K i_5
 have h : w_ (σ := Int) (ρ := Int) (fun k72 => (fun x67 => bd (idx [y] ((k72 : Nat) : Int)) fun x102 => bd (g_J x102 x67) fun r114 => bd (α := Int) (if r114 = true then some x102 else some x67) (fun x122 => some (.next x122)))) [y].length 0 x = some (.inl (min x y)) := by
  refine b_n (σ := Int) (ρ := Int) (fun j => if j = 0 then x else min x y) (n := 1) (fun j hj => ?_)
  obtain rfl : j = 0 := by omega
  rw [show idx [y] ((0 : Nat) : Int) = some y from rfl]
  simp only [bd_some, g_J, fT_]
  by_cases hlt : y < x
  ·rw [dT_ hlt]; simp only [fT_, bd_some]; rw [show min x y = y by omega]; rfl
  ·rw [dF_ hlt]; simp only [bF_, fF_, bd_some]; rw [show min x y = x by omega]; rfl
 rw [h]; rfl
theorem q_a (x y : Int) : g_A x y = some (min x y) := by
 unfold g_A
 by_cases hlt : y < x
 ·rw [dT_ hlt]; simp only [fT_]; congr 1; omega
 ·rw [dF_ hlt]; simp only [bF_, fF_]; congr 1; omega
section
variable {b : List UInt8} {k : Nat}
theorem e_2 (b : List UInt8) (k i : Nat) : (b.drop k)[i]? = b[k + i]? := List.getElem?_drop
theorem m_1 (hb : b.length ≤ ML) (hk : k < b.length) {q : Nat} (hq : q ≤ b.length) :
  (if (decide ((c_ (k : Int) (q : Int)) < (b.length : Int))) = true then bd (idx b (c_ (k : Int) (q : Int))) fun x154 => bd (idx b (k : Int)) fun x163 => some ((byteI x154) == (byteI x163)) else some false) = some (decide ((b.drop k)[q]? = some b[k])) := by
 have hML := MLv
 rw [ia_ (by omega) (by omega), e_2]
 by_cases h : k + q < b.length
 ·rw [dT_ (by omega), iP_ rfl, show ((k : Int) + (q : Int)) = ((k + q : Nat) : Int) by omega, ix_ h, ix_ hk]
  simp only [bd_some, gG_ h, oI_]
  congr 1
  rw [Bool.eq_iff_iff, dE_, beq_iff_eq, e_B]
 ·rw [dF_ (by omega), iN_ (by simp), gN_ (by omega)]; rfl
theorem k_0 (hk : k < b.length) : (b.drop k)[0]? = some b[k] := by rw [e_2, Nat.add_zero]; exact gG_ hk
theorem h_D (b : List UInt8) (k : Nat) : U_ (b.drop k) ≤ b.length - k := by
 have := l_L (b.drop k); rwa [List.length_drop] at this
theorem k_1 (hk : k < b.length) : 1 ≤ U_ (b.drop k) := l_M (by rw [List.length_drop]; omega)
theorem m_2 (hb : b.length ≤ ML) (hk : k < b.length) {c n : Nat} (hc : c ≤ U_ (b.drop k)) (hn : b.length < n) :
  E_ (σ := Int) (ρ := Int) (fun x104 => bd (α := Bool) (if (decide ((c_ (k : Int) x104) < (b.length : Int))) = true then bd (idx b (c_ (k : Int) x104)) fun x154 => bd (idx b (k : Int)) fun x163 => some ((byteI x154) == (byteI x163)) else some false) (fun x143 => if x143 = true then some (.next (c_ x104 1)) else some (.brk x104))) n (c : Int) = some (.inl ((U_ (b.drop k) : Nat) : Int)) := by
 have hML := MLv
 have hl := h_D b k
 have := e_E (σ := Int) (ρ := Int) (step := fun x104 => bd (α := Bool) (if (decide ((c_ (k : Int) x104) < (b.length : Int))) = true then bd (idx b (c_ (k : Int) x104)) fun x154 => bd (idx b (k : Int)) fun x163 => some ((byteI x154) == (byteI x163)) else some false) (fun x143 => if x143 = true then some (.next (c_ x104 1)) else some (.brk x104)))
  (fun j => ((c + j : Nat) : Int)) (s := ((U_ (b.drop k) : Nat) : Int)) (m := n) (j0 := U_ (b.drop k) - c) (by omega) (fun j hj => by
   rw [m_1 hb hk (by omega), bd_some, dT_ (j_T (k_0 hk) (by omega))]
   simp only [fT_]
   rw [ia_ (by omega) (by omega)]; rfl) (by
   rw [m_1 hb hk (by omega), bd_some, show c + (U_ (b.drop k) - c) = U_ (b.drop k) by omega, dF_ (fun h => j_U (k_0 hk) h rfl)]
   rfl)
 simpa using this
theorem q_b (hb : b.length ≤ ML) (hk : k < b.length) {n : Nat} (hn : b.length < n) : g_I n b (k : Int) = some ((U_ (b.drop k) : Nat) : Int) := by
 unfold g_I
 rw [dF_ (show ¬ (k : Int) < 0 by omega), dF_ (show ¬ (b.length : Int) ≤ (k : Int) by omega)]
 simp only [bF_, fF_, bd_some]
 have := m_2 hb hk (c := 1) (k_1 hk) hn
 rw [show (((1 : Nat)) : Int) = 1 from rfl] at this
 rw [this, bd_some, el_inl]
theorem m_3 (hb : b.length ≤ ML) (hk : k < b.length) {n : Nat} (hn : b.length < n) : e_g n b (k : Int) = some ((U_ (b.drop k) : Nat) : Int) := by
 have hML := MLv
 unfold e_g
 rw [a_V, a_h (by omega) (by omega), dT_ (show (0 : Int) ≤ (k : Int) by omega), dT_ (show (k : Int) ≤ (b.length : Int) - 1 by omega)]
 simp only [Bool.and_self, bd_some, nT_, bF_, fF_]
 have := m_2 hb hk (c := 0) (Nat.zero_le _) hn
 rw [show (((0 : Nat)) : Int) = 0 from rfl] at this
 rw [this, bd_some, el_inl]
theorem m_4 (hb : b.length ≤ ML) (hk : k < b.length) : e_h b (k : Int) = some (decide (3 ≤ U_ (b.drop k))) := by
 have hML := MLv
 unfold e_h
 have h3 := p_Z (s := b.drop k)
 rw [e_2, e_2, e_2, Nat.add_zero] at h3
 rw [ia_ (y := 2) (by omega) (by omega), ia_ (y := 1) (by omega) (by omega)]
 by_cases h : k + 2 < b.length
 ·rw [dT_ (by omega), show ((k : Int) + 1) = ((k + 1 : Nat) : Int) by omega, show ((k : Int) + 2) = ((k + 2 : Nat) : Int) by omega, ix_ hk, ix_ (k := k + 1) (by omega), ix_ h]
  simp only [fT_, bd_some]
  rw [gG_ hk, gG_ (show k + 1 < b.length by omega), gG_ h] at h3
  by_cases h1 : b[k] = b[k + 1]
  ·rw [show (byteI b[k] == byteI b[k + 1]) = true by rw [beq_iff_eq, e_B]; exact h1]
   simp only [fT_, bd_some]
   congr 1
   rw [Bool.eq_iff_iff, dE_, beq_iff_eq, e_B, h3]
   constructor
   ·intro h2; exact ⟨b[k], rfl, by rw [h1], by rw [h2]⟩
   ·rintro ⟨x, e0, _, e2⟩; exact (Option.some.inj e0).trans (Option.some.inj e2).symm
  ·rw [show (byteI b[k] == byteI b[k + 1]) = false by rw [beq_eq_false_iff_ne]; exact fun h2 => h1 (e_B.1 h2)]
   simp only [bF_, fF_, bd_some]
   congr 1
   symm; rw [decide_eq_false_iff_not, h3]
   rintro ⟨x, e0, e1, _⟩; exact h1 ((Option.some.inj e0).trans (Option.some.inj e1).symm)
 ·rw [dF_ (by omega)]
  simp only [bF_, fF_, bd_some]
  congr 1
  have := h_D b k
  symm; rw [decide_eq_false_iff_not]; omega
theorem m_5 (hb : b.length ≤ ML) (hk : k < b.length) {c n : Nat} (hc : c ≤ a_3 127 (b.drop k)) (hn : b.length < n) (T : Int → Option Bool) (hT : ∀ q : Nat, q < b.length → T (q : Int) = some (decide (¬ 3 ≤ U_ (b.drop q)))) :
  E_ (σ := Int) (ρ := List UInt8) (fun x755 => bd (α := Bool) (if (decide (x755 < (b.length : Int))) = true then if (decide ((y_ x755 (k : Int)) < 127)) = true then T x755 else some false else some false) (fun x787 => if x787 = true then some (.next (c_ x755 1)) else some (.brk x755))) n ((k + c : Nat) : Int) = some (.inl ((k + a_3 127 (b.drop k) : Nat) : Int)) := by
 have hML := MLv
 have hl := e_w 127 (b.drop k)
 rw [List.length_drop] at hl
 have := e_E (σ := Int) (ρ := List UInt8) (step := fun x755 => bd (α := Bool) (if (decide (x755 < (b.length : Int))) = true then if (decide ((y_ x755 (k : Int)) < 127)) = true then T x755 else some false else some false) (fun x787 => if x787 = true then some (.next (c_ x755 1)) else some (.brk x755)))
  (fun j => ((k + (c + j) : Nat) : Int)) (s := ((k + a_3 127 (b.drop k) : Nat) : Int)) (m := n) (j0 := a_3 127 (b.drop k) - c) (by omega) (fun j hj => by
   have hn := l_P 127 (b.drop k) (c + j) (by omega)
   rw [List.drop_drop] at hn
   rw [a_h (by omega) (by omega), dT_ (by omega), dT_ (by omega), iP_ rfl, iP_ rfl, hT _ (by omega), dT_ (by omega), bd_some]
   simp only [fT_]
   rw [ia_ (by omega) (by omega)]; congr 2) (by
   rw [show k + (c + (a_3 127 (b.drop k) - c)) = k + a_3 127 (b.drop k) by omega]
   rw [a_h (by omega) (by omega)]
   by_cases h1 : k + a_3 127 (b.drop k) < b.length
   ·rw [dT_ (by omega), iP_ rfl]
    by_cases h2 : a_3 127 (b.drop k) < 127
    ·have he := l_Q 127 (b.drop k) h2 (by rw [List.length_drop]; omega)
     rw [List.drop_drop] at he
     rw [dT_ (by omega), iP_ rfl, hT _ h1, dF_ (by omega), bd_some]; rfl
    ·rw [dF_ (by omega)]; rfl
   ·rw [dF_ (by omega)]; rfl)
 simpa using this
end
theorem k_2 {step : List UInt8 × Int → Option (Out (List UInt8 × Int) (List UInt8))} {b : List UInt8} (hs : ∀ (k : Nat) (out : List UInt8), k < b.length → out.length ≤ 2 * k → step (out, (k : Int)) = some (.next (out ++ (b_9 (b.drop k)).1, ((k + (b_9 (b.drop k)).2 : Nat) : Int))))
  (he : ∀ out, step (out, (b.length : Int)) = some (.brk (out, (b.length : Int)))) : ∀ (m k : Nat) (out : List UInt8), b.length - k < m → k ≤ b.length → out.length ≤ 2 * k → E_ step m (out, (k : Int)) = some (.inl (out ++ b_D (b.drop k), (b.length : Int)))
 | 0, k, out, h, _, _ => by omega
 | m + 1, k, out, h, hk, ho => by
  unfold E_
  by_cases hlt : k < b.length
  ·have hd : 0 < (b.drop k).length := by rw [List.length_drop]; omega
   have hp := h_z hd
   have hl := l_R hd
   rw [List.length_drop] at hp
   rw [hs k out hlt ho]
   simp only
   rw [k_2 hs he m _ _ (by omega) (by omega) (by rw [List.length_append]; omega), l_T hd, List.append_assoc, List.drop_drop]
  ·have : k = b.length := by omega
   subst this
   rw [he]
   simp [j_W]
theorem m_6 {b : List UInt8} {k : Nat} (hk : k < b.length) (h3 : 3 ≤ U_ (b.drop k)) : b_9 (b.drop k) = ([mkB (128 + min ((U_ (b.drop k) : Nat) : Int) 127), b[k]], min (U_ (b.drop k)) 127) := by
 unfold b_9
 rw [iP_ h3]
 have hg : (b.drop k).getD 0 0 = b[k] := by
  rw [gD_, k_0 hk]; rfl
 rw [hg]
 congr 4
 omega
theorem m_7 {b : List UInt8} {k : Nat} (h3 : ¬ 3 ≤ U_ (b.drop k)) : b_9 (b.drop k) = (mkB (a_3 127 (b.drop k) : Nat) :: (b.drop k).take (a_3 127 (b.drop k)), a_3 127 (b.drop k)) := by
 unfold b_9; rw [iN_ h3]
theorem d_y {b : List UInt8} {k j : Nat} (h : k + j ≤ b.length) : slc b (k : Int) ((k + j : Nat) : Int) = some ((b.drop k).take j) := by
 rw [e_6 (by omega) (by omega) (by omega)]
 congr 1
 simp only [tN_]
 rw [List.drop_take, show k + j - k = j by omega]
theorem q_c {b : List UInt8} (hb : b.length ≤ ML) {n : Nat} (hn : b.length < n) : g_L n b = some (b_D b) := by
 have hML := MLv; have hLIM := a_e
 unfold g_L
 refine (congrArg (fun z => bd z _) (k_2 (b := b) ?_ ?_ n 0 [] (by omega) (Nat.zero_le _) (Nat.zero_le _))).trans ?_
 ·intro k out hk ho
  simp only [un2]
  have hrl := h_D b k
  have hrp := k_1 hk
  rw [dT_ (show (k : Int) < (b.length : Int) by omega), iP_ rfl, m_4 hb hk, bd_some]
  by_cases h3 : 3 ≤ U_ (b.drop k)
  ·rw [dT_ h3, iP_ rfl, q_b hb hk hn, bd_some, q_9, bd_some, ix_ hk, bd_some, ia_ (by omega) (by omega), b_m (by simp only [lC_, List.length_nil]; omega), bd_some, bd_some, el_inl, ia_ (by omega) (by omega), m_6 hk h3]
   simp only
   rw [show ((k + min (U_ (b.drop k)) 127 : Nat) : Int) = (k : Int) + min ((U_ (b.drop k) : Nat) : Int) 127 by omega]
  ·rw [dF_ h3, iN_ (by simp), ia_ (y := 1) (by omega) (by omega)]
   have hlp := h_y (m := 127) (by omega) (s := b.drop k) (by rw [List.length_drop]; omega) h3
   have hll := e_w 127 (b.drop k)
   rw [List.length_drop] at hll
   have h := m_5 hb hk (c := 1) hlp hn (fun x => bd (e_h b x) fun r803 => some (!r803)) (fun q hq => by rw [m_4 hb hq, bd_some, decide_not])
   rw [show ((k : Int) + 1) = ((k + 1 : Nat) : Int) by omega, h, bd_some, el_inl, a_h (by omega) (by omega), a_Q (by omega), bd_some, d_y (by omega), bd_some, b_m (by simp only [List.length_append, lC_, List.length_nil, List.length_take, List.length_drop]; omega), bd_some, bd_some, el_inl, m_7 h3]
   simp only [List.append_assoc, List.cons_append, List.nil_append]
   rw [show (((k + a_3 127 (b.drop k) : Nat) : Int) - (k : Int)) = ((a_3 127 (b.drop k) : Nat) : Int) by omega]
 ·intro out
  simp only [un2]
  rw [dF_ (by omega)]; rfl
 ·rw [bd_some, el_inl]; simp
theorem q_d {b : List UInt8} (hb : b.length ≤ ML) {n : Nat} (hn : b.length < n) : g_B n b = some (b_D b) := by
 have hML := MLv; have hLIM := a_e
 unfold g_B
 refine (congrArg (fun z => bd z _) (k_2 (b := b) ?_ ?_ n 0 [] (by omega) (Nat.zero_le _) (Nat.zero_le _))).trans ?_
 ·intro k out hk ho
  simp only [un2]
  have hrl := h_D b k
  have hrp := k_1 hk
  rw [dT_ (show (k : Int) < (b.length : Int) by omega), iP_ rfl, m_3 hb hk hn, bd_some, q_a, bd_some]
  by_cases h3 : 3 ≤ U_ (b.drop k)
  ·rw [dT_ (show (3 : Int) ≤ min ((U_ (b.drop k) : Nat) : Int) 127 by omega), iP_ rfl, ix_ hk, bd_some, ia_ (by omega) (by omega), b_m (by simp only [lC_, List.length_nil]; omega), bd_some, bd_some, el_inl, ia_ (by omega) (by omega), m_6 hk h3]
   simp only
   rw [show ((k + min (U_ (b.drop k)) 127 : Nat) : Int) = (k : Int) + min ((U_ (b.drop k) : Nat) : Int) 127 by omega]
  ·rw [dF_ (show ¬ (3 : Int) ≤ min ((U_ (b.drop k) : Nat) : Int) 127 by omega), iN_ (by simp)]
   have hlp := h_y (m := 127) (by omega) (s := b.drop k) (by rw [List.length_drop]; omega) h3
   have hll := e_w 127 (b.drop k)
   rw [List.length_drop] at hll
   have h := m_5 hb hk (c := 0) (Nat.zero_le _) hn (fun x => bd (e_g n b x) fun r788 => some (decide (r788 < 3))) (fun q hq => by rw [m_3 hb hq hn, bd_some]; congr 1; rw [decide_eq_decide]; omega)
   rw [Nat.add_zero] at h
   rw [h, bd_some, el_inl, d_y (by omega), bd_some, a_h (by omega) (by omega), a_Q (by omega), bd_some, b_m (by simp only [List.length_append, lC_, List.length_nil, List.length_take, List.length_drop]; omega), bd_some, bd_some, el_inl, m_7 h3]
   simp only [List.append_assoc, List.cons_append, List.nil_append]
   rw [show (((k + a_3 127 (b.drop k) : Nat) : Int) - (k : Int)) = ((a_3 127 (b.drop k) : Nat) : Int) by omega]
 ·intro out
  simp only [un2]
  rw [dF_ (by omega)]; rfl
 ·rw [bd_some, el_inl]; simp
end Go.Vw
