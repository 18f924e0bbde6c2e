import Derived.Test.YtfdcdeahjejlmaaGreatDoorVwP35
namespace Go.Vw
open Go.RowKit Dat
theorem rec_iter {b : List UInt8} {D : Int → Option (Record × Int × Bool)} (hD : ∀ k : Nat, k ≤ b.length → D (k : Int) = some (decO k (decS (b.drop k)))) (hb : b.length ≤ ML) : ∀ (m k : Nat) (acc : List Record), b.length - k < m → k ≤ b.length → acc.length ≤ k →
  iter (σ := (List Record) × Int) (ρ := (List Record) × Int) (un2 fun x191 x199 => bd3 (D x199) fun r294 r295 r296 => if (!r296) = true then some (.ret (x191, x199)) else bd (psh x191 r294) fun x370 => some (.next (x370, r295))) m (acc, (k : Int)) = some (.inr (acc ++ (recP (b.drop k)).1, ((k + (recP (b.drop k)).2 : Nat) : Int)))
 | 0, k, acc, h, _, _ => by omega
 | m + 1, k, acc, h, hk, ha => by
  have hML := MLv; have hMX := MXv; have hLIM := LIMv
  unfold iter
  simp only [un2]
  rw [hD k hk]
  cases hd : decS (b.drop k) with
  | none =>
   rw [recP_none hd]
   simp [decO, bd3_some]
  | some x =>
   obtain ⟨r, j⟩ := x
   have hp := decS_pos hd
   rw [List.length_drop] at hp
   simp only [decO, bd3_some, nT_, bF_, fF_]
   rw [psh_of (by omega), bd_some]
   simp only
   rw [rec_iter hD hb m (k + j) (acc ++ [r]) (by omega) (by omega) (by simp; omega), recP_some hd, List.drop_drop, List.append_assoc]
   simp only [List.cons_append, List.nil_append]
   rw [Nat.add_assoc]
theorem impl_Records {b : List UInt8} (hb : b.length ≤ ML) {n : Nat} (hn : 1060100 ≤ n) : M_impl_ReadRecords n b = some ((recP b).1, ((recP b).2 : Int)) := by
 have hML := MLv; have hMX := MXv
 unfold M_impl_ReadRecords
 have := rec_iter (b := b) (D := M_impl_DecodeRecord n b) (fun k hk => impl_Decode hb hk hn) hb n 0 [] (by omega) (Nat.zero_le _) (Nat.zero_le _)
 rw [show (((0 : Nat)) : Int) = 0 from rfl] at this
 rw [this, bd_some, el_inr]
 simp
theorem spec_Records {b : List UInt8} (hb : b.length ≤ ML) {n : Nat} (hn : 1060100 ≤ n) : M_spec_ReadRecords n b = some ((recP b).1, ((recP b).2 : Int)) := by
 have hML := MLv; have hMX := MXv
 unfold M_spec_ReadRecords
 have := rec_iter (b := b) (D := M_spec_DecodeRecord n b) (fun k hk => spec_Decode hb hk hn) hb n 0 [] (by omega) (Nat.zero_le _) (Nat.zero_le _)
 rw [show (((0 : Nat)) : Int) = 0 from rfl] at this
 rw [this, bd_some, el_inr]
 simp
def hitP (s : List UInt8) (t : Nat) : Bool := (recP (s.take t)).2 == t
theorem hitP_zero (s : List UInt8) : hitP s 0 = true := by simp [hitP, recP, recF]
theorem hitP_none {s : List UInt8} {t : Nat} (h : decS s = none) (ht : 0 < t) : hitP s t = false := by
 have : decS (s.take t) = none := by
  cases hx : decS (s.take t) with
  | none => rfl
  | some x => obtain ⟨r, k⟩ := x; rw [(decS_of_take hx).1] at h; cases h
 unfold hitP
 rw [recP_none this, beq_eq_false_iff_ne]
 simp only; omega
theorem hitP_some {s : List UInt8} {t j : Nat} {r : Record} (h : decS s = some (r, j)) (ht : 0 < t) : hitP s t = (decide (j ≤ t) && hitP (s.drop j) (t - j)) := by
 unfold hitP
 by_cases hj : j ≤ t
 ·rw [dT_ hj, Bool.true_and, recP_some (decS_take h hj), List.drop_take]
  rw [Bool.eq_iff_iff, beq_iff_eq, beq_iff_eq]
  simp only; omega
 ·rw [dF_ hj, Bool.false_and]
  have : decS (s.take t) = none := by
   cases hx : decS (s.take t) with
   | none => rfl
   | some x =>
    obtain ⟨r', k'⟩ := x
    obtain ⟨h1, h2⟩ := decS_of_take hx
    rw [h1] at h; cases h; omega
  rw [recP_none this, beq_eq_false_iff_ne]
  simp only; omega
def logOk (l : Log) : Bool := (decide (0 ≤ l.stored) && decide (l.stored ≤ (l.bytes.length : Int))) && ((recP l.bytes).2 == l.bytes.length && hitP l.bytes l.stored.toNat)
theorem spec_LogOk {l : Log} (hb : l.bytes.length ≤ ML) {n : Nat} (hn : 1060100 ≤ n) : M_spec_IsValidLog n l = some (logOk l) := by
 have hML := MLv; have hMX := MXv
 unfold M_spec_IsValidLog logOk
 rw [spec_l1In, bd_some]
 cases hr : (decide ((0 : Int) ≤ l.stored) && decide (l.stored ≤ (l.bytes.length : Int))) with
 | false => rfl
 | true =>
  simp only [aE_, dE_] at hr
  simp only [nT_, bF_, fF_, Bool.true_and]
  have hsl : slc l.bytes 0 l.stored = some (l.bytes.take l.stored.toNat) := by rw [slc_of (by omega) hr.1 hr.2]; simp
  rw [spec_Records hb hn, bd2_some, hsl, bd_some, spec_Records (by rw [List.length_take]; omega) hn, bd2_some]
  have e1 : ((((recP l.bytes).2 : Nat) : Int) == (l.bytes.length : Int)) = ((recP l.bytes).2 == l.bytes.length) := by
   rw [Bool.eq_iff_iff, beq_iff_eq, beq_iff_eq]; omega
  have e2 : ((((recP (l.bytes.take l.stored.toNat)).2 : Nat) : Int) == l.stored) = hitP l.bytes l.stored.toNat := by
   unfold hitP; rw [Bool.eq_iff_iff, beq_iff_eq, beq_iff_eq]; omega
  rw [e1, e2]
  cases (recP l.bytes).2 == l.bytes.length <;> rfl
theorem log_iter {b : List UInt8} {t n : Nat} (hb : b.length ≤ ML) (hn : 1060100 ≤ n) : ∀ (m k : Nat) (e : Bool), b.length - k < m → k ≤ b.length →
  iter (σ := Bool × Int) (ρ := Bool) (un2 fun x159 x160 => if (decide (x160 < (b.length : Int))) = true then bd3 (M_impl_DecodeRecord n b x160) fun r237 r238 r239 => if (!r239) = true then some (.ret false) else bd (α := Bool) (if x159 = true then some true else some (r238 == (t : Int))) (fun x293 => some (.next (x293, r238))) else some (.brk (x159, x160))) m (e, (k : Int)) = some (if (recP (b.drop k)).2 = b.length - k then .inl (e || (decide (k < t) && hitP (b.drop k) (t - k)), (b.length : Int)) else .inr false)
 | 0, k, e, h, _ => by omega
 | m + 1, k, e, h, hk => by
  have hML := MLv; have hMX := MXv
  unfold iter
  simp only [un2]
  by_cases hlt : k < b.length
  ·rw [dT_ (by omega), iP_ rfl, impl_Decode hb hk hn]
   cases hd : decS (b.drop k) with
   | none =>
    rw [recP_none hd, iN_ (by simp only; omega)]
    rfl
   | some x =>
    obtain ⟨r, j⟩ := x
    have hp := decS_pos hd
    rw [List.length_drop] at hp
    simp only [decO, bd3_some, nT_, bF_, fF_]
    have e0 : (if e = true then some true else some (((k + j : Nat) : Int) == (t : Int))) = some (e || decide (k + j = t)) := by
     cases e
     ·simp only [bF_, fF_, Bool.false_or]; congr 1; rw [Bool.eq_iff_iff, beq_iff_eq, dE_]; omega
     ·rfl
    rw [e0, bd_some]
    simp only
    rw [log_iter hb hn m (k + j) _ (by omega) (by omega), recP_some hd, List.drop_drop]
    simp only
    by_cases hf : (recP (b.drop (k + j))).2 = b.length - (k + j)
    ·rw [iP_ hf, iP_ (by omega)]
     congr 3
     rw [Bool.or_assoc]
     congr 1
     by_cases hkt : k < t
     ·rw [dT_ hkt, Bool.true_and, hitP_some hd (by omega), List.drop_drop]
      by_cases h1 : k + j = t
      ·subst h1
       rw [dT_ rfl, dT_ (show j ≤ k + j - k by omega), show k + j - k - j = 0 by omega, hitP_zero]; simp
      ·rw [dF_ h1, Bool.false_or]
       by_cases h2 : k + j < t
       ·rw [dT_ h2, dT_ (show j ≤ t - k by omega), show t - k - j = t - (k + j) by omega]
       ·rw [dF_ h2, dF_ (show ¬ j ≤ t - k by omega)]; simp
     ·rw [dF_ hkt, dF_ (show ¬ k + j = t by omega), dF_ (show ¬ k + j < t by omega)]; simp
    ·rw [iN_ hf, iN_ (by omega)]
  ·have : k = b.length := by omega
   subst this
   rw [dF_ (by omega), iN_ (by simp)]
   have hnil : b.drop b.length = [] := by simp
   rw [hnil, recP_none (decS_short (by simp)), iP_ (by simp)]
   simp only
   congr 3
   have : (decide (b.length < t) && hitP [] (t - b.length)) = false := by
    by_cases h1 : b.length < t
    ·rw [hitP_none (decS_short (by simp)) (by omega)]; simp
    ·rw [dF_ h1]; rfl
   rw [this, Bool.or_false]
theorem impl_LogOk {l : Log} (hb : l.bytes.length ≤ ML) {n : Nat} (hn : 1060100 ≤ n) : M_impl_IsValidLog n l = some (logOk l) := by
 have hML := MLv; have hMX := MXv
 unfold M_impl_IsValidLog M_impl_mustBeLog logOk
 rw [impl_InRange, bd_some]
 cases hr : (decide ((0 : Int) ≤ l.stored) && decide (l.stored ≤ (l.bytes.length : Int))) with
 | false => rfl
 | true =>
  simp only [aE_, dE_] at hr
  simp only [nT_, bF_, fF_, Bool.true_and]
  have h := log_iter (b := l.bytes) (t := l.stored.toNat) hb hn n 0 (l.stored == 0) (by omega) (Nat.zero_le _)
  rw [show ((l.stored.toNat : Nat) : Int) = l.stored by omega, show (((0 : Nat)) : Int) = 0 from rfl, List.drop_zero, Nat.sub_zero, Nat.sub_zero] at h
  rw [h, bd_some]
  by_cases hf : (recP l.bytes).2 = l.bytes.length
  ·rw [iP_ hf, el_inl, show ((recP l.bytes).2 == l.bytes.length) = true by simpa using hf, Bool.true_and]
   simp only [un2]
   have : (l.stored == 0 || (decide (0 < l.stored.toNat) && hitP l.bytes l.stored.toNat)) = hitP l.bytes l.stored.toNat := by
    by_cases h0 : l.stored = 0
    ·rw [h0]; simp [hitP_zero]
    ·rw [show (l.stored == 0) = false by simpa using h0, dT_ (by omega)]; simp
   rw [this]
   cases hitP l.bytes l.stored.toNat <;> rfl
  ·rw [iN_ hf, el_inr, show ((recP l.bytes).2 == l.bytes.length) = false by simpa using hf]; rfl
end Go.Vw
