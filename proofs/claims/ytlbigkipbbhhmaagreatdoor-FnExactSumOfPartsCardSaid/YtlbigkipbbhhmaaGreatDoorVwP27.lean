import Derived.Test.YtlbigkipbbhhmaaGreatDoorVwP26
namespace Go.Vw
open Go.RowKit Dat
def fitsP (p s : Str) : Bool := if p.b = [35] then (parseP s).2 else p.b == s.b
def rowF (p : Str) (steps : List Str) (reach : List Bool) : Nat → Bool
 | 0 => if p.b = [46, 46] then reach.getD 0 false else false
 | k + 1 => if p.b = [46, 46] then reach.getD (k + 1) false || rowF p steps reach k else reach.getD k false && fitsP p (steps.getD k ⟨[]⟩)
def fillR (f : Nat → Bool) (n k : Nat) : List Bool := (List.range k).map f ++ List.replicate (n - k) false
theorem fill_len {f : Nat → Bool} {n k : Nat} (h : k ≤ n) : (fillR f n k).length = n := by unfold fillR; simp; omega
theorem fill_zero (f : Nat → Bool) (n : Nat) : fillR f n 0 = List.replicate n false := by unfold fillR; simp
theorem fill_full (f : Nat → Bool) (n : Nat) : fillR f n n = (List.range n).map f := by unfold fillR; simp
theorem fill_cons {f : Nat → Bool} {n k : Nat} (h : k < n) : fillR f n k = (List.range k).map f ++ false :: List.replicate (n - (k + 1)) false := by
 unfold fillR
 rw [show n - k = (n - (k + 1)) + 1 by omega, List.replicate_succ]
theorem fill_next {f : Nat → Bool} {n k : Nat} : fillR f n (k + 1) = (List.range k).map f ++ f k :: List.replicate (n - (k + 1)) false := by
 unfold fillR
 rw [List.range_succ, List.map_append, List.append_assoc]; rfl
theorem fill_upd {f : Nat → Bool} {n k : Nat} (h : k < n) {x : Bool} (hx : x = f k) : upd (fillR f n k) (k : Int) x = some (fillR f n (k + 1)) := by
 subst hx
 rw [upd_nat (by rw [fill_len (by omega)]; omega), fill_cons h, fill_next]
 congr 1
 simp
theorem fill_skip {f : Nat → Bool} {n k : Nat} (h : k < n) (hx : f k = false) : fillR f n k = fillR f n (k + 1) := by
 rw [fill_cons h, fill_next, hx]
theorem fill_get {f : Nat → Bool} {n k j : Nat} (hj : j < k) (h : k ≤ n) : idx (fillR f n k) (j : Int) = some (f j) := by
 rw [ix_ (by rw [fill_len h]; omega)]
 unfold fillR
 rw [List.getElem_append_left (by simpa using hj)]
 simp
def rowL (p : Str) (steps : List Str) (reach : List Bool) : List Bool := (List.range (steps.length + 1)).map (rowF p steps reach)
def reachN (pat steps : List Str) (k : Nat) : List Bool := (pat.take k).foldl (fun r p => rowL p steps r) (true :: List.replicate steps.length false)
def matchS (pat steps : List Str) : Bool := (reachN pat steps pat.length).getD steps.length false
theorem reach_len (pat steps : List Str) (k : Nat) : (reachN pat steps k).length = steps.length + 1 := by
 unfold reachN
 generalize pat.take k = l
 have key : ∀ (l : List Str) (r : List Bool), r.length = steps.length + 1 → (l.foldl (fun r p => rowL p steps r) r).length = steps.length + 1 := by
  intro l
  induction l with
  | nil => intro r h; exact h
  | cons p l ih => intro r _; exact ih _ (by unfold rowL; simp)
 exact key l _ (by simp)
theorem reach_succ {pat steps : List Str} {k : Nat} (hk : k < pat.length) : reachN pat steps (k + 1) = rowL pat[k] steps (reachN pat steps k) := by
 unfold reachN
 rw [take_one hk, List.foldl_append]; rfl
theorem reach_at {r : List Bool} {k : Nat} (h : k < r.length) : idx r (k : Int) = some (r.getD k false) := by
 rw [ix_ h]; simp [gD_, h]
theorem start_row {steps : List Str} (hs : steps.length ≤ MX + 1) : mk0 false (iadd (steps.length : Int) 1) = some (List.replicate (steps.length + 1) false) ∧ upd (List.replicate (steps.length + 1) false) 0 true = some (true :: List.replicate steps.length false) := by
 have hMX := MXv
 rw [ia_ (by omega) (by omega), show (steps.length : Int) + 1 = ((steps.length + 1 : Nat) : Int) by omega]
 refine ⟨mk0_of (by rw [LIMv]; omega), ?_⟩
 have := upd_nat (l := List.replicate (steps.length + 1) false) (k := 0) (x := true) (by simp)
 rw [show (0 : Int) = ((0 : Nat) : Int) from rfl, this, List.replicate_succ]; rfl
section
variable {pat steps : List Str}
theorem row_dots {p : Str} {r : List Bool} (h : p.b = [46, 46]) (k : Nat) : rowF p steps r k = (r.getD k false || (decide (0 < k) && rowF p steps r (k - 1))) := by
 cases k with
 | zero => simp [rowF, h]
 | succ k => rw [rowF, iP_ h, Nat.add_sub_cancel, dT_ (Nat.succ_pos k), Bool.true_and]
theorem row_else {p : Str} {r : List Bool} (h : p.b ≠ [46, 46]) (k : Nat) : rowF p steps r k = (decide (0 < k) && (r.getD (k - 1) false && fitsP p (steps.getD (k - 1) ⟨[]⟩))) := by
 cases k with
 | zero => simp [rowF, h]
 | succ k => rw [rowF, iN_ h, Nat.add_sub_cancel, dT_ (Nat.succ_pos k), Bool.true_and]
theorem dec_sub {k : Nat} (h : 0 < k) (hk : k ≤ 1048580) : isub (k : Int) 1 = ((k - 1 : Nat) : Int) := by
 rw [isub_of (by omega) (by omega)]; omega
theorem spec_MatchSteps {n : Nat} (hn : 1048600 ≤ n) (hs : steps.length ≤ MX + 1) : M_spec_MatchSteps n pat steps = some (matchS pat steps) := by
 have hMX := MXv
 unfold M_spec_MatchSteps
 obtain ⟨e1, e2⟩ := start_row hs
 simp only [e1, bd_some, e2]
 refine (congrArg (fun z => bd z _) (forN_nextAt (fun k => reachN pat steps k) (n := pat.length) rfl (fun k hk => ?_))).trans ?_
 ·have hrl := reach_len pat steps k
  simp only [ix_ hk, bd_some]
  rw [reach_succ hk]
  generalize reachN pat steps k = r at *
  generalize hp : pat[k] = p
  refine (congrArg (fun z => bd z _) (iter_brk (fun j => (fillR (rowF p steps r) (steps.length + 1) j, ((j : Nat) : Int))) (s := (fillR (rowF p steps r) (steps.length + 1) (steps.length + 1), ((steps.length + 1 : Nat) : Int))) (m := n) (j0 := steps.length + 1) (by omega) (fun j hj => ?_) ?_)).trans ?_
  ·simp only [un2]
   rw [dT_ (show (j : Int) ≤ (steps.length : Int) by omega), ia_ (x := (j : Int)) (by omega) (by omega)]
   simp only [fT_]
   by_cases hd : p.b = [46, 46]
   ·rw [show (p.b == [46, 46]) = true by simpa using hd, reach_at (show j < r.length by omega)]
    simp only [fT_, bd_some]
    have hrow := row_dots (steps := steps) (r := r) hd j
    cases hb : r.getD j false with
    | true =>
     simp only [fT_]
     rw [fill_upd (by omega) (by rw [hrow, hb]; rfl)]
     rfl
    | false =>
     rw [hb, Bool.false_or] at hrow
     simp only [bF_, fF_]
     by_cases h0 : 0 < j
     ·rw [dT_ (show (0 : Int) < (j : Int) by omega), dec_sub h0 (by omega), fill_get (by omega) (by omega), bd_some, fill_upd (by omega) (by rw [hrow, dT_ h0]; rfl)]
      rfl
     ·rw [dF_ (show ¬ (0 : Int) < (j : Int) by omega), fill_upd (by omega) (by rw [hrow, dF_ h0]; rfl)]
      rfl
   ·rw [show (p.b == [46, 46]) = false by simpa using hd]
    simp only [bF_, fF_]
    have hrow := row_else (steps := steps) (r := r) hd j
    by_cases h0 : 0 < j
    ·rw [show ((j : Int) == 0) = false by simp; omega, dec_sub h0 (by omega), reach_at (show j - 1 < r.length by omega)]
     simp only [bF_, fF_, bd_some]
     rw [dT_ h0, Bool.true_and] at hrow
     cases hb : r.getD (j - 1) false with
     | false =>
      rw [hb, Bool.false_and] at hrow
      simp only [Bool.not_false, fT_, bd_some]
      rw [fill_skip (by omega) hrow]; rfl
     | true =>
      rw [hb, Bool.true_and] at hrow
      have hst : j - 1 < steps.length := by omega
      simp only [nT_, bF_, fF_, ix_ hst, bd_some, spec_ParseInt (show 30 ≤ n by omega)]
      have hg : steps.getD (j - 1) ⟨[]⟩ = steps[j - 1] := by simp [gD_, hst]
      rw [hg] at hrow
      rcases hps : parseP steps[j - 1] with ⟨x, ok⟩
      simp only [bd2_some]
      unfold fitsP at hrow
      rw [hps] at hrow
      by_cases h35 : p.b = [35]
      ·rw [show (p.b == [35]) = true by simpa using h35, show (p.b != [35]) = false by simpa using h35]
       rw [iP_ h35] at hrow
       cases ok with
       | true =>
        simp only [fT_]
        rw [fill_upd (by omega) hrow.symm]; rfl
       | false =>
        simp only [fT_, bF_, fF_]
        split
        ·rw [fill_upd (by omega) hrow.symm]; rfl
        ·rw [fill_upd (by omega) hrow.symm]; rfl
      ·rw [show (p.b == [35]) = false by simpa using h35, show (p.b != [35]) = true by simpa using h35]
       rw [iN_ h35] at hrow
       simp only [bF_, fF_]
       split
       ·rename_i he
        rw [he] at hrow
        rw [fill_upd (by omega) hrow.symm]; rfl
       ·rename_i he
        rw [show (p.b == steps[j - 1].b) = false by simpa using he] at hrow
        rw [fill_upd (by omega) hrow.symm]; rfl
    ·have : j = 0 := by omega
     subst this
     simp only [Int.natCast_zero, bQ_, fT_, bd_some]
     rw [fill_skip (by omega) (by rw [hrow]; rfl)]; rfl
  ·simp only [un2]
   rw [dF_ (by omega)]; rfl
  ·rw [bd_some, el_inl]
   simp only [un2]
   rw [fill_full]; rfl
 ·rw [bd_some, el_inl, reach_at (by rw [reach_len]; omega)]
  rfl
theorem impl_fits {k : Nat} (hk : k < pat.length) (s : Str) : M_impl_patternOf_g_fits pat (k : Int) s = some (fitsP pat[k] s) := by
 unfold M_impl_patternOf_g_fits fitsP
 rw [ix_ hk, bd_some, impl_ParseInt]
 by_cases h : pat[k].b = [35]
 ·rw [show (pat[k].b == [35]) = true by simpa using h, iP_ h]; rfl
 ·rw [show (pat[k].b == [35]) = false by simpa using h, iN_ h]; rfl
theorem impl_MatchSteps (hs : steps.length ≤ MX + 1) : M_impl_MatchSteps pat steps = some (matchS pat steps) := by
 have hMX := MXv
 unfold M_impl_MatchSteps M_impl_patternOf_g_match
 obtain ⟨e1, e2⟩ := start_row hs
 simp only [e1, bd_some, e2]
 refine (congrArg (fun z => bd (bd z _) _) (forN_nextAt (fun k => reachN pat steps k) (n := pat.length) rfl (fun k hk => ?_))).trans ?_
 ·have hrl := reach_len pat steps k
  simp only [ix_ hk, bd_some, impl_fits hk]
  rw [reach_succ hk]
  generalize reachN pat steps k = r at *
  generalize hp : pat[k] = p
  refine (congrArg (fun z => bd z _) (forN_nextAt (fun j => fillR (rowF p steps r) (steps.length + 1) j) (n := r.length) (by rw [fill_zero]) (fun j hj => ?_))).trans ?_
  ·by_cases hd : p.b = [46, 46]
   ·rw [show (p.b == [46, 46]) = true by simpa using hd, reach_at hj]
    simp only [fT_, bd_some]
    have hrow := row_dots (steps := steps) (r := r) hd j
    cases hb : r.getD j false with
    | true =>
     simp only [fT_]
     rw [fill_upd (by omega) (by rw [hrow, hb]; rfl)]
     rfl
    | false =>
     rw [hb, Bool.false_or] at hrow
     simp only [bF_, fF_]
     by_cases h0 : 0 < j
     ·rw [dT_ (show (0 : Int) < (j : Int) by omega), dec_sub h0 (by omega), fill_get (by omega) (by omega), bd_some, fill_upd (by omega) (by rw [hrow, dT_ h0]; rfl)]
      rfl
     ·rw [dF_ (show ¬ (0 : Int) < (j : Int) by omega), fill_upd (by omega) (by rw [hrow, dF_ h0]; rfl)]
      rfl
   ·rw [show (p.b == [46, 46]) = false by simpa using hd]
    simp only [bF_, fF_]
    have hrow := row_else (steps := steps) (r := r) hd j
    by_cases h0 : 0 < j
    ·rw [dT_ (show (0 : Int) < (j : Int) by omega), dec_sub h0 (by omega), reach_at (show j - 1 < r.length by omega)]
     simp only [fT_, bd_some]
     rw [dT_ h0, Bool.true_and] at hrow
     cases hb : r.getD (j - 1) false with
     | false =>
      rw [hb, Bool.false_and] at hrow
      simp only [bF_, fF_]
      rw [fill_upd (by omega) hrow.symm]; rfl
     | true =>
      rw [hb, Bool.true_and] at hrow
      have hst : j - 1 < steps.length := by omega
      have hg : steps.getD (j - 1) ⟨[]⟩ = steps[j - 1] := by simp [gD_, hst]
      rw [hg] at hrow
      simp only [fT_, ix_ hst, bd_some]
      rw [fill_upd (by omega) hrow.symm]; rfl
    ·have : j = 0 := by omega
     subst this
     rw [dF_ (by omega)]
     simp only [bF_, fF_, bd_some]
     rw [fill_skip (by omega) (by rw [hrow]; rfl)]
  ·rw [bd_some, el_inl, hrl, fill_full]; rfl
 ·rw [bd_some, el_inl, reach_at (by rw [reach_len]; omega), bd_some, bd_some]
  rfl
def matchP (pattern path : Str) : Bool := match patP pattern with
 | some l => (splitP path).2 && matchS l (splitP path).1
 | none => false
theorem splitP_len (s : Str) : (splitP s).1.length ≤ s.b.length + 1 := by
 have h := (splitL_len 47 s.b []).2
 unfold splitP
 split
 ·simp
 ·split
  ·simp only [List.length_tail]; omega
  ·simp
theorem spec_MatchPath {n : Nat} (hn : 1048600 ≤ n) {pattern path : Str} (h1 : pattern.b.length ≤ MX) (h2 : path.b.length ≤ MX) : M_spec_MatchPath n pattern path = some (matchP pattern path) := by
 have hMX := MXv
 unfold M_spec_MatchPath matchP
 obtain ⟨⟨l, ok⟩, e1, e2⟩ := spec_l21 (n := n) (by omega) h1 (by omega)
 rw [e1, spec_SplitPath (by omega) h2 (by omega)]
 have hl := splitP_len path
 rcases hsp : splitP path with ⟨m, is⟩
 rw [hsp] at hl
 have hl' : m.length ≤ path.b.length + 1 := hl
 simp only [bd2_some]
 cases hp : patP pattern with
 | none =>
  rw [hp] at e2
  have : ok = false := e2
  subst this; rfl
 | some q =>
  rw [hp] at e2
  have : (l, ok) = (q, true) := e2
  cases this
  cases is with
  | false => rfl
  | true =>
   simp only [fT_]
   rw [spec_MatchSteps hn (by omega)]; rfl
theorem impl_MatchPath {n : Nat} (hn : 1048600 ≤ n) {pattern path : Str} (h1 : pattern.b.length ≤ MX) (h2 : path.b.length ≤ MX) : M_impl_MatchPath n pattern path = some (matchP pattern path) := by
 have hMX := MXv
 unfold M_impl_MatchPath matchP
 obtain ⟨⟨l, ok⟩, e1, e2⟩ := impl_splitPat (n := n) (by omega) h1
 rw [e1, impl_SplitPath (by omega) h2]
 have hl := splitP_len path
 rcases hsp : splitP path with ⟨m, is⟩
 rw [hsp] at hl
 have hl' : m.length ≤ path.b.length + 1 := hl
 simp only [bd2_some]
 cases hp : patP pattern with
 | none =>
  rw [hp] at e2
  have : ok = false := e2
  subst this; rfl
 | some q =>
  rw [hp] at e2
  have : (l, ok) = (q, true) := e2
  cases this
  cases is with
  | false => rfl
  | true =>
   simp only [fT_]
   rw [impl_MatchSteps (by omega)]; rfl
end
end Go.Vw
