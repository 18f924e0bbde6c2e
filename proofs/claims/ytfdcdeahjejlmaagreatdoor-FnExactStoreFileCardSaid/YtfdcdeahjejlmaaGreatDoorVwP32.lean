import Derived.Test.YtfdcdeahjejlmaaGreatDoorVwP31
namespace Go.Vw
open Go.RowKit Dat
def ML : Nat := 1060000
theorem MLv : ML = 1060000 := rfl
theorem impl_Min (x y : Int) : M_impl_Min x y = some (min x y) := by
 unfold M_impl_Min M_impl_pick_impl_Min_1
 have h : forN (σ := Int) (ρ := Int) (fun k72 => (fun x67 => bd (idx [y] ((k72 : Nat) : Int)) fun x102 => bd (M_impl_Min_1 x102 x67) fun r114 => bd (α := Int) (if r114 = true then some x102 else some x67) (fun x122 => some (.next x122)))) [y].length 0 x = some (.inl (min x y)) := by
  refine forN_next (σ := Int) (ρ := Int) (fun j => if j = 0 then x else min x y) (n := 1) (fun j hj => ?_)
  obtain rfl : j = 0 := by omega
  rw [show idx [y] ((0 : Nat) : Int) = some y from rfl]
  simp only [bd_some, M_impl_Min_1, fT_]
  by_cases hlt : y < x
  ·rw [dT_ hlt]; simp only [fT_, bd_some]; rw [show min x y = y by omega]; rfl
  ·rw [dF_ hlt]; simp only [bF_, fF_, bd_some]; rw [show min x y = x by omega]; rfl
 rw [h]; rfl
theorem spec_Min (x y : Int) : M_spec_Min x y = some (min x y) := by
 unfold M_spec_Min
 by_cases hlt : y < x
 ·rw [dT_ hlt]; simp only [fT_]; congr 1; omega
 ·rw [dF_ hlt]; simp only [bF_, fF_]; congr 1; omega
section
variable {b : List UInt8} {k : Nat}
theorem drop_get (b : List UInt8) (k i : Nat) : (b.drop k)[i]? = b[k + i]? := List.getElem?_drop
theorem run_test (hb : b.length ≤ ML) (hk : k < b.length) {q : Nat} (hq : q ≤ b.length) :
  (if (decide ((iadd (k : Int) (q : Int)) < (b.length : Int))) = true then bd (idx b (iadd (k : Int) (q : Int))) fun x154 => bd (idx b (k : Int)) fun x163 => some ((byteI x154) == (byteI x163)) else some false) = some (decide ((b.drop k)[q]? = some b[k])) := by
 have hML := MLv
 rw [ia_ (by omega) (by omega), drop_get]
 by_cases h : k + q < b.length
 ·rw [dT_ (by omega), iP_ rfl, show ((k : Int) + (q : Int)) = ((k + q : Nat) : Int) by omega, ix_ h, ix_ hk]
  simp only [bd_some, gG_ h, oI_]
  congr 1
  rw [Bool.eq_iff_iff, dE_, beq_iff_eq, byteI_inj]
 ·rw [dF_ (by omega), iN_ (by simp), gN_ (by omega)]; rfl
theorem first_get (hk : k < b.length) : (b.drop k)[0]? = some b[k] := by rw [drop_get, Nat.add_zero]; exact gG_ hk
theorem run_drop_le (b : List UInt8) (k : Nat) : runL (b.drop k) ≤ b.length - k := by
 have := runL_le (b.drop k); rwa [List.length_drop] at this
theorem run_drop_pos (hk : k < b.length) : 1 ≤ runL (b.drop k) := runL_pos (by rw [List.length_drop]; omega)
theorem run_loop (hb : b.length ≤ ML) (hk : k < b.length) {c n : Nat} (hc : c ≤ runL (b.drop k)) (hn : b.length < n) :
  iter (σ := Int) (ρ := Int) (fun x104 => bd (α := Bool) (if (decide ((iadd (k : Int) x104) < (b.length : Int))) = true then bd (idx b (iadd (k : Int) x104)) fun x154 => bd (idx b (k : Int)) fun x163 => some ((byteI x154) == (byteI x163)) else some false) (fun x143 => if x143 = true then some (.next (iadd x104 1)) else some (.brk x104))) n (c : Int) = some (.inl ((runL (b.drop k) : Nat) : Int)) := by
 have hML := MLv
 have hl := run_drop_le b k
 have := iter_brk (σ := Int) (ρ := Int) (step := fun x104 => bd (α := Bool) (if (decide ((iadd (k : Int) x104) < (b.length : Int))) = true then bd (idx b (iadd (k : Int) x104)) fun x154 => bd (idx b (k : Int)) fun x163 => some ((byteI x154) == (byteI x163)) else some false) (fun x143 => if x143 = true then some (.next (iadd x104 1)) else some (.brk x104)))
  (fun j => ((c + j : Nat) : Int)) (s := ((runL (b.drop k) : Nat) : Int)) (m := n) (j0 := runL (b.drop k) - c) (by omega) (fun j hj => by
   rw [run_test hb hk (by omega), bd_some, dT_ (run_get (first_get hk) (by omega))]
   simp only [fT_]
   rw [ia_ (by omega) (by omega)]; rfl) (by
   rw [run_test hb hk (by omega), bd_some, show c + (runL (b.drop k) - c) = runL (b.drop k) by omega, dF_ (fun h => run_end (first_get hk) h rfl)]
   rfl)
 simpa using this
theorem impl_RunAt (hb : b.length ≤ ML) (hk : k < b.length) {n : Nat} (hn : b.length < n) : M_impl_RunAt n b (k : Int) = some ((runL (b.drop k) : Nat) : Int) := by
 unfold M_impl_RunAt
 rw [dF_ (show ¬ (k : Int) < 0 by omega), dF_ (show ¬ (b.length : Int) ≤ (k : Int) by omega)]
 simp only [bF_, fF_, bd_some]
 have := run_loop hb hk (c := 1) (run_drop_pos hk) hn
 rw [show (((1 : Nat)) : Int) = 1 from rfl] at this
 rw [this, bd_some, el_inl]
theorem spec_RunAt (hb : b.length ≤ ML) (hk : k < b.length) {n : Nat} (hn : b.length < n) : M_spec_RunAt n b (k : Int) = some ((runL (b.drop k) : Nat) : Int) := by
 have hML := MLv
 unfold M_spec_RunAt
 rw [spec_l1In, isub_of (by omega) (by omega), dT_ (show (0 : Int) ≤ (k : Int) by omega), dT_ (show (k : Int) ≤ (b.length : Int) - 1 by omega)]
 simp only [Bool.and_self, bd_some, nT_, bF_, fF_]
 have := run_loop hb hk (c := 0) (Nat.zero_le _) hn
 rw [show (((0 : Nat)) : Int) = 0 from rfl] at this
 rw [this, bd_some, el_inl]
theorem impl_startsRun (hb : b.length ≤ ML) (hk : k < b.length) : M_impl_startsRun b (k : Int) = some (decide (3 ≤ runL (b.drop k))) := by
 have hML := MLv
 unfold M_impl_startsRun
 have h3 := runL_three (s := b.drop k)
 rw [drop_get, drop_get, drop_get, Nat.add_zero] at h3
 rw [ia_ (y := 2) (by omega) (by omega), ia_ (y := 1) (by omega) (by omega)]
 by_cases h : k + 2 < b.length
 ·rw [dT_ (by omega), show ((k : Int) + 1) = ((k + 1 : Nat) : Int) by omega, show ((k : Int) + 2) = ((k + 2 : Nat) : Int) by omega, ix_ hk, ix_ (k := k + 1) (by omega), ix_ h]
  simp only [fT_, bd_some]
  rw [gG_ hk, gG_ (show k + 1 < b.length by omega), gG_ h] at h3
  by_cases h1 : b[k] = b[k + 1]
  ·rw [show (byteI b[k] == byteI b[k + 1]) = true by rw [beq_iff_eq, byteI_inj]; exact h1]
   simp only [fT_, bd_some]
   congr 1
   rw [Bool.eq_iff_iff, dE_, beq_iff_eq, byteI_inj, h3]
   constructor
   ·intro h2; exact ⟨b[k], rfl, by rw [h1], by rw [h2]⟩
   ·rintro ⟨x, e0, _, e2⟩; exact (Option.some.inj e0).trans (Option.some.inj e2).symm
  ·rw [show (byteI b[k] == byteI b[k + 1]) = false by rw [beq_eq_false_iff_ne]; exact fun h2 => h1 (byteI_inj.1 h2)]
   simp only [bF_, fF_, bd_some]
   congr 1
   symm; rw [decide_eq_false_iff_not, h3]
   rintro ⟨x, e0, e1, _⟩; exact h1 ((Option.some.inj e0).trans (Option.some.inj e1).symm)
 ·rw [dF_ (by omega)]
  simp only [bF_, fF_, bd_some]
  congr 1
  have := run_drop_le b k
  symm; rw [decide_eq_false_iff_not]; omega
theorem lit_loop (hb : b.length ≤ ML) (hk : k < b.length) {c n : Nat} (hc : c ≤ litL 127 (b.drop k)) (hn : b.length < n) (T : Int → Option Bool) (hT : ∀ q : Nat, q < b.length → T (q : Int) = some (decide (¬ 3 ≤ runL (b.drop q)))) :
  iter (σ := Int) (ρ := List UInt8) (fun x755 => bd (α := Bool) (if (decide (x755 < (b.length : Int))) = true then if (decide ((isub x755 (k : Int)) < 127)) = true then T x755 else some false else some false) (fun x787 => if x787 = true then some (.next (iadd x755 1)) else some (.brk x755))) n ((k + c : Nat) : Int) = some (.inl ((k + litL 127 (b.drop k) : Nat) : Int)) := by
 have hML := MLv
 have hl := litL_le 127 (b.drop k)
 rw [List.length_drop] at hl
 have := iter_brk (σ := Int) (ρ := List UInt8) (step := fun x755 => bd (α := Bool) (if (decide (x755 < (b.length : Int))) = true then if (decide ((isub x755 (k : Int)) < 127)) = true then T x755 else some false else some false) (fun x787 => if x787 = true then some (.next (iadd x755 1)) else some (.brk x755)))
  (fun j => ((k + (c + j) : Nat) : Int)) (s := ((k + litL 127 (b.drop k) : Nat) : Int)) (m := n) (j0 := litL 127 (b.drop k) - c) (by omega) (fun j hj => by
   have hn := litL_not 127 (b.drop k) (c + j) (by omega)
   rw [List.drop_drop] at hn
   rw [isub_of (by omega) (by omega), dT_ (by omega), dT_ (by omega), iP_ rfl, iP_ rfl, hT _ (by omega), dT_ (by omega), bd_some]
   simp only [fT_]
   rw [ia_ (by omega) (by omega)]; congr 2) (by
   rw [show k + (c + (litL 127 (b.drop k) - c)) = k + litL 127 (b.drop k) by omega]
   rw [isub_of (by omega) (by omega)]
   by_cases h1 : k + litL 127 (b.drop k) < b.length
   ·rw [dT_ (by omega), iP_ rfl]
    by_cases h2 : litL 127 (b.drop k) < 127
    ·have he := litL_end 127 (b.drop k) h2 (by rw [List.length_drop]; omega)
     rw [List.drop_drop] at he
     rw [dT_ (by omega), iP_ rfl, hT _ h1, dF_ (by omega), bd_some]; rfl
    ·rw [dF_ (by omega)]; rfl
   ·rw [dF_ (by omega)]; rfl)
 simpa using this
end
theorem pack_iter {step : List UInt8 × Int → Option (Out (List UInt8 × Int) (List UInt8))} {b : List UInt8} (hs : ∀ (k : Nat) (out : List UInt8), k < b.length → out.length ≤ 2 * k → step (out, (k : Int)) = some (.next (out ++ (packStep (b.drop k)).1, ((k + (packStep (b.drop k)).2 : Nat) : Int))))
  (he : ∀ out, step (out, (b.length : Int)) = some (.brk (out, (b.length : Int)))) : ∀ (m k : Nat) (out : List UInt8), b.length - k < m → k ≤ b.length → out.length ≤ 2 * k → iter step m (out, (k : Int)) = some (.inl (out ++ packP (b.drop k), (b.length : Int)))
 | 0, k, out, h, _, _ => by omega
 | m + 1, k, out, h, hk, ho => by
  unfold iter
  by_cases hlt : k < b.length
  ·have hd : 0 < (b.drop k).length := by rw [List.length_drop]; omega
   have hp := packStep_pos hd
   have hl := packStep_len hd
   rw [List.length_drop] at hp
   rw [hs k out hlt ho]
   simp only
   rw [pack_iter hs he m _ _ (by omega) (by omega) (by rw [List.length_append]; omega), packP_step hd, List.append_assoc, List.drop_drop]
  ·have : k = b.length := by omega
   subst this
   rw [he]
   simp [packP_nil]
theorem step_run {b : List UInt8} {k : Nat} (hk : k < b.length) (h3 : 3 ≤ runL (b.drop k)) : packStep (b.drop k) = ([mkB (128 + min ((runL (b.drop k) : Nat) : Int) 127), b[k]], min (runL (b.drop k)) 127) := by
 unfold packStep
 rw [iP_ h3]
 have hg : (b.drop k).getD 0 0 = b[k] := by
  rw [gD_, first_get hk]; rfl
 rw [hg]
 congr 4
 omega
theorem step_lit {b : List UInt8} {k : Nat} (h3 : ¬ 3 ≤ runL (b.drop k)) : packStep (b.drop k) = (mkB (litL 127 (b.drop k) : Nat) :: (b.drop k).take (litL 127 (b.drop k)), litL 127 (b.drop k)) := by
 unfold packStep; rw [iN_ h3]
theorem slc_drop {b : List UInt8} {k j : Nat} (h : k + j ≤ b.length) : slc b (k : Int) ((k + j : Nat) : Int) = some ((b.drop k).take j) := by
 rw [slc_of (by omega) (by omega) (by omega)]
 congr 1
 simp only [tN_]
 rw [List.drop_take, show k + j - k = j by omega]
theorem impl_Pack {b : List UInt8} (hb : b.length ≤ ML) {n : Nat} (hn : b.length < n) : M_impl_PackBytes n b = some (packP b) := by
 have hML := MLv; have hLIM := LIMv
 unfold M_impl_PackBytes
 refine (congrArg (fun z => bd z _) (pack_iter (b := b) ?_ ?_ n 0 [] (by omega) (Nat.zero_le _) (Nat.zero_le _))).trans ?_
 ·intro k out hk ho
  simp only [un2]
  have hrl := run_drop_le b k
  have hrp := run_drop_pos hk
  rw [dT_ (show (k : Int) < (b.length : Int) by omega), iP_ rfl, impl_startsRun hb hk, bd_some]
  by_cases h3 : 3 ≤ runL (b.drop k)
  ·rw [dT_ h3, iP_ rfl, impl_RunAt hb hk hn, bd_some, impl_Min, bd_some, ix_ hk, bd_some, ia_ (by omega) (by omega), app_of (by simp only [lC_, List.length_nil]; omega), bd_some, bd_some, el_inl, ia_ (by omega) (by omega), step_run hk h3]
   simp only
   rw [show ((k + min (runL (b.drop k)) 127 : Nat) : Int) = (k : Int) + min ((runL (b.drop k) : Nat) : Int) 127 by omega]
  ·rw [dF_ h3, iN_ (by simp), ia_ (y := 1) (by omega) (by omega)]
   have hlp := litL_pos (m := 127) (by omega) (s := b.drop k) (by rw [List.length_drop]; omega) h3
   have hll := litL_le 127 (b.drop k)
   rw [List.length_drop] at hll
   have h := lit_loop hb hk (c := 1) hlp hn (fun x => bd (M_impl_startsRun b x) fun r803 => some (!r803)) (fun q hq => by rw [impl_startsRun hb hq, bd_some, decide_not])
   rw [show ((k : Int) + 1) = ((k + 1 : Nat) : Int) by omega, h, bd_some, el_inl, isub_of (by omega) (by omega), psh_of (by omega), bd_some, slc_drop (by omega), bd_some, app_of (by simp only [List.length_append, lC_, List.length_nil, List.length_take, List.length_drop]; omega), bd_some, bd_some, el_inl, step_lit h3]
   simp only [List.append_assoc, List.cons_append, List.nil_append]
   rw [show (((k + litL 127 (b.drop k) : Nat) : Int) - (k : Int)) = ((litL 127 (b.drop k) : Nat) : Int) by omega]
 ·intro out
  simp only [un2]
  rw [dF_ (by omega)]; rfl
 ·rw [bd_some, el_inl]; simp
theorem spec_Pack {b : List UInt8} (hb : b.length ≤ ML) {n : Nat} (hn : b.length < n) : M_spec_PackBytes n b = some (packP b) := by
 have hML := MLv; have hLIM := LIMv
 unfold M_spec_PackBytes
 refine (congrArg (fun z => bd z _) (pack_iter (b := b) ?_ ?_ n 0 [] (by omega) (Nat.zero_le _) (Nat.zero_le _))).trans ?_
 ·intro k out hk ho
  simp only [un2]
  have hrl := run_drop_le b k
  have hrp := run_drop_pos hk
  rw [dT_ (show (k : Int) < (b.length : Int) by omega), iP_ rfl, spec_RunAt hb hk hn, bd_some, spec_Min, bd_some]
  by_cases h3 : 3 ≤ runL (b.drop k)
  ·rw [dT_ (show (3 : Int) ≤ min ((runL (b.drop k) : Nat) : Int) 127 by omega), iP_ rfl, ix_ hk, bd_some, ia_ (by omega) (by omega), app_of (by simp only [lC_, List.length_nil]; omega), bd_some, bd_some, el_inl, ia_ (by omega) (by omega), step_run hk h3]
   simp only
   rw [show ((k + min (runL (b.drop k)) 127 : Nat) : Int) = (k : Int) + min ((runL (b.drop k) : Nat) : Int) 127 by omega]
  ·rw [dF_ (show ¬ (3 : Int) ≤ min ((runL (b.drop k) : Nat) : Int) 127 by omega), iN_ (by simp)]
   have hlp := litL_pos (m := 127) (by omega) (s := b.drop k) (by rw [List.length_drop]; omega) h3
   have hll := litL_le 127 (b.drop k)
   rw [List.length_drop] at hll
   have h := lit_loop hb hk (c := 0) (Nat.zero_le _) hn (fun x => bd (M_spec_RunAt n b x) fun r788 => some (decide (r788 < 3))) (fun q hq => by rw [spec_RunAt hb hq hn, bd_some]; congr 1; rw [decide_eq_decide]; omega)
   rw [Nat.add_zero] at h
   rw [h, bd_some, el_inl, slc_drop (by omega), bd_some, isub_of (by omega) (by omega), psh_of (by omega), bd_some, app_of (by simp only [List.length_append, lC_, List.length_nil, List.length_take, List.length_drop]; omega), bd_some, bd_some, el_inl, step_lit h3]
   simp only [List.append_assoc, List.cons_append, List.nil_append]
   rw [show (((k + litL 127 (b.drop k) : Nat) : Int) - (k : Int)) = ((litL 127 (b.drop k) : Nat) : Int) by omega]
 ·intro out
  simp only [un2]
  rw [dF_ (by omega)]; rfl
 ·rw [bd_some, el_inl]; simp
end Go.Vw
