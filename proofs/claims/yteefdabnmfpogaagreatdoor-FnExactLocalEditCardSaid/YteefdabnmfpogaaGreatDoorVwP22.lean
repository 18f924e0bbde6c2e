import Derived.Test.YteefdabnmfpogaaGreatDoorVwP21
namespace Go.Vw
open Go.RowKit Dat
abbrev zE : Entry := ⟨(⟨[]⟩ : Str), 0, 0, 0⟩
section
variable {d : Desc} {b : List UInt8}
def locL (d : Desc) (b : List UInt8) : List Str → Nat → Nat → Option (Nat × Nat)
 | [], i, p => some (i, p)
 | s :: ss, i, p => match stepT d.rules b (d.rules.getD i default) p s with
  | none => none
  | some x => locL d b ss x.1 x.2
theorem getD_rule {i : Nat} (hi : i < d.rules.length) : d.rules.getD i default = d.rules[i] := by simp [List.getD_eq_getElem?_getD, hi]
theorem locL_ok (hv : valid d = true) : ∀ (ss : List Str) (i p : Nat), i < d.rules.length → p ≤ b.length → ∀ k q, locL d b ss i p = some (k, q) → k < d.rules.length ∧ q ≤ b.length
 | [], i, p, hi, hp, k, q, h => by cases h; exact ⟨hi, hp⟩
 | s :: ss, i, p, hi, hp, k, q, h => by
  unfold locL at h
  rw [getD_rule hi] at h
  cases hs : stepT d.rules b d.rules[i] p s with
  | none => rw [hs] at h; cases h
  | some x =>
   obtain ⟨k', q'⟩ := x
   rw [hs] at h
   have := stepT_ok hv hi hp hs
   exact locL_ok hv ss k' q' (by omega) this.2 k q h
theorem loc_loop {ρ : Type} (hv : valid d = true) {body : Nat → Int × Int → Option (Out (Int × Int) ρ)} {g : Int × Int → Option ρ} {bad : ρ} (L : List Str)
  (hb : ∀ j (hj : j < L.length) (i p : Nat) (hi : i < d.rules.length), p ≤ b.length → body j ((i : Int), (p : Int)) = some (match stepT d.rules b d.rules[i] p L[j] with | some x => .next ((x.1 : Int), (x.2 : Int)) | none => .ret bad)) :
  ∀ (m j i p : Nat), j + m = L.length → i < d.rules.length → p ≤ b.length → bd (forN body m j ((i : Int), (p : Int))) (el g some) = (match locL d b (L.drop j) i p with | some x => g ((x.1 : Int), (x.2 : Int)) | none => some bad)
 | 0, j, i, p, hj, hi, hp => by
  rw [List.drop_eq_nil_of_le (by omega)]; rfl
 | m + 1, j, i, p, hj, hi, hp => by
  have hlt : j < L.length := by omega
  rw [List.drop_eq_getElem_cons hlt]
  unfold locL forN
  rw [getD_rule hi, hb j hlt i p hi hp]
  cases hs : stepT d.rules b d.rules[i] p L[j] with
  | none => rfl
  | some x =>
   obtain ⟨k, q⟩ := x
   have := stepT_ok hv hi hp hs
   exact loc_loop hv L hb m (j + 1) k q (by omega) (by omega) this.2
def findP (d : Desc) (b : List UInt8) (path : Str) : Option (Nat × Nat) :=
 if (splitP path).2 = true ∧ valid d = true ∧ b.length ≤ 400 then (match locL d b (splitP path).1 (d.rules.length - 1) 0 with
  | none => none
  | some x => if (rdW d.rules b x.1 x.2).2.2 = 0 then some x else none) else none
def locP (d : Desc) (b : List UInt8) (path : Str) : Entry × Bool := match findP d b path with
 | some x => (⟨path, (x.1 : Int), (x.2 : Int), ((rdW d.rules b x.1 x.2).2.1 : Int)⟩, true)
 | none => (zE, false)
theorem findP_ok {path : Str} {x : Nat × Nat} (h : findP d b path = some x) : valid d = true ∧ b.length ≤ 400 ∧ x.1 < d.rules.length ∧ x.2 ≤ b.length ∧ (rdW d.rules b x.1 x.2).2.2 = 0 := by
 unfold findP at h
 split at h
 ·rename_i hc
  have hl := valid_len hc.2.1
  cases hs : locL d b (splitP path).1 (d.rules.length - 1) 0 with
  | none => rw [hs] at h; cases h
  | some y =>
   rw [hs] at h
   simp only at h
   split at h
   ·rename_i h0
    cases h
    have := locL_ok hc.2.1 _ _ _ (by omega) (by omega) x.1 x.2 hs
    exact ⟨hc.2.1, hc.2.2, this.1, this.2, h0⟩
   ·cases h
 ·cases h
theorem findP_not {path : Str} (h : ¬ ((splitP path).2 = true ∧ valid d = true ∧ b.length ≤ 400)) : findP d b path = none := if_neg h
theorem cond_one {a v : Bool} {l : Nat} : (if (!a) = true then some true else if (!v) = true then some true else some (decide ((400 : Int) < (l : Int)))) = some (!(a && (v && decide (l ≤ 400)))) := by
 have e : decide ((400 : Int) < (l : Int)) = !decide (l ≤ 400) := by
  by_cases h : l ≤ 400
  ·rw [decide_eq_true h, decide_eq_false (by omega)]; rfl
  ·rw [decide_eq_false h, decide_eq_true (by omega)]; rfl
 rw [e]
 cases a <;> cases v <;> rfl
theorem spec_LocatePart (hd : SmD d) {n : Nat} (hn : 1048600 ≤ n) {path : Str} (hp : path.b.length ≤ MX) : M_spec_LocatePart n d b path = some (locP d b path) := by
 have hMX := MXv
 unfold M_spec_LocatePart locP
 rw [spec_SplitPath (by omega) hp (by omega)]
 rcases hsp : splitP path with ⟨ss, ok⟩
 simp only [bd2_some, spec_IsValidDescription d hd, bd_some]
 rw [cond_one, bd_some]
 by_cases hc : ok = true ∧ valid d = true ∧ b.length ≤ 400
 ·obtain ⟨rfl, hv, hb4⟩ := hc
  rw [hv, decide_eq_true hb4]
  simp only [Bool.and_self, Bool.not_true, Bool.false_eq_true, if_false]
  have hl := valid_len hv
  rw [spec_RootOf hd, bd_some, show rootP d = ((d.rules.length - 1 : Nat) : Int) by unfold rootP; omega]
  have hlen := hd
  have := loc_loop (b := b) (bad := ((⟨(⟨[]⟩ : Str), 0, 0, 0⟩ : Entry), false)) hv (body := (fun k311 => (un2 fun x304 x306 => bd (idx ss ((k311 : Nat) : Int)) fun x391 => bd3 (M_spec_l20Step n d x304 b x306 x391) fun r416 r417 r418 => if (!r418) = true then some (.ret ((⟨(⟨[]⟩ : Str), 0, 0, 0⟩ : Entry), false)) else some (.next (r416, r417)))))
   (g := un2 fun x304 x306 => bd3 (M_spec_l11Read n d x304 b x306) fun r498 r499 r500 => if (r500 != 0) = true then some ((⟨(⟨[]⟩ : Str), 0, 0, 0⟩ : Entry), false) else some ((⟨path, x304, x306, r499⟩ : Entry), true)) ss
   (fun j hj i p hi hp => by
    simp only [un2, idx_get hj, bd_some, spec_step hv hd hb4 (show 1000 ≤ n by omega) hi hp]
    cases stepT d.rules b d.rules[i] p ss[j] <;> rfl) ss.length 0 (d.rules.length - 1) 0 (by omega) (by omega) (by omega)
  refine Eq.trans this ?_
  rw [List.drop_zero]
  have hf : findP d b path = (match locL d b ss (d.rules.length - 1) 0 with | none => none | some x => if (rdW d.rules b x.1 x.2).2.2 = 0 then some x else none) := by unfold findP; rw [hsp, if_pos ⟨rfl, hv, hb4⟩]
  rw [hf]
  cases hs : locL d b ss (d.rules.length - 1) 0 with
  | none => rfl
  | some x =>
   have hx := locL_ok hv _ _ _ (by omega) (by omega) x.1 x.2 hs
   simp only [un2]
   rw [spec_read hv hd hb4 x.1 hx.1 n (by omega) x.2 hx.2]
   unfold castR
   simp only [bd3_some]
   by_cases h0 : (rdW d.rules b x.1 x.2).2.2 = 0
   ·rw [if_pos h0, h0]; rfl
   ·rw [if_neg h0, if_pos (by simpa using h0)]
 ·have e : (ok && (valid d && decide (b.length ≤ 400))) = false := by
   cases h : (ok && (valid d && decide (b.length ≤ 400))) with
   | false => rfl
   | true =>
    simp only [Bool.and_eq_true, decide_eq_true_eq] at h
    exact absurd h hc
  rw [e, findP_not (by rw [hsp]; exact hc)]
  rfl
theorem impl_LocatePart (hd : SmD d) {n : Nat} (hn : 1048600 ≤ n) {path : Str} (hp : path.b.length ≤ MX) : M_impl_LocatePart n d b path = some (locP d b path) := by
 have hMX := MXv
 unfold M_impl_LocatePart locP
 rw [impl_SplitPath (by omega) hp]
 rcases hsp : splitP path with ⟨ss, ok⟩
 simp only [bd2_some, impl_IsValidDescription n (by omega) d hd, bd_some]
 rw [cond_one, bd_some]
 by_cases hc : ok = true ∧ valid d = true ∧ b.length ≤ 400
 ·obtain ⟨rfl, hv, hb4⟩ := hc
  rw [hv, decide_eq_true hb4]
  simp only [Bool.and_self, Bool.not_true, Bool.false_eq_true, if_false]
  have hl := valid_len hv
  rw [impl_RootOf hd, bd_some, show rootP d = ((d.rules.length - 1 : Nat) : Int) by unfold rootP; omega]
  have := loc_loop (b := b) (bad := ((⟨(⟨[]⟩ : Str), 0, 0, 0⟩ : Entry), false)) hv (body := (fun k332 => (un2 fun x324 x326 => bd (idx ss ((k332 : Nat) : Int)) fun x410 => bd3 (M_impl_locator_follow n (⟨(⟨d.rules⟩ : Desc), b, x324, x326⟩ : Locator) x410) fun r438 r441 r442 => if (!r438) = true then some (.ret ((⟨(⟨[]⟩ : Str), 0, 0, 0⟩ : Entry), false)) else some (.next (r441, r442)))))
   (g := un2 fun x324 x326 => bd2 (M_impl_locator_pass n (⟨(⟨d.rules⟩ : Desc), b, x324, x326⟩ : Locator) x324) fun r535 r538 => if (!r535) = true then some ((⟨(⟨[]⟩ : Str), 0, 0, 0⟩ : Entry), false) else some ((⟨path, x324, x326, r538⟩ : Entry), true)) ss
   (fun j hj i p hi hp => by
    obtain ⟨y, h1, h2⟩ := impl_follow hv hd hb4 (show 500 ≤ n by omega) hi hp ss[j]
    simp only [un2, idx_get hj, bd_some, h1]
    cases hs : stepT d.rules b d.rules[i] p ss[j] with
    | none =>
     rw [hs] at h2
     obtain ⟨y1, y2, y3⟩ := y
     have h2' : y1 = false := h2
     subst h2'; rfl
    | some x =>
     rw [hs] at h2
     have h2' : y = (true, (x.1 : Int), (x.2 : Int)) := h2
     subst h2'; rfl) ss.length 0 (d.rules.length - 1) 0 (by omega) (by omega) (by omega)
  refine Eq.trans this ?_
  rw [List.drop_zero]
  have hf : findP d b path = (match locL d b ss (d.rules.length - 1) 0 with | none => none | some x => if (rdW d.rules b x.1 x.2).2.2 = 0 then some x else none) := by unfold findP; rw [hsp, if_pos ⟨rfl, hv, hb4⟩]
  rw [hf]
  cases hs : locL d b ss (d.rules.length - 1) 0 with
  | none => rfl
  | some x =>
   have hx := locL_ok hv _ _ _ (by omega) (by omega) x.1 x.2 hs
   simp only [un2]
   have hp := impl_pass (n := n) (i := (x.1 : Int)) hv hd hb4 (by omega) hx.2 (k := (x.1 : Int)) (by omega) (by omega)
   refine (congrArg (fun z => bd2 z _) hp).trans ?_
   unfold rdK
   simp only [bd2_some, Int.toNat_natCast]
   by_cases h0 : (rdW d.rules b x.1 x.2).2.2 = 0
   ·rw [if_pos h0, h0]; rfl
   ·rw [if_neg h0, show ((rdW d.rules b x.1 x.2).2.2 == 0) = false by simpa using h0]; rfl
 ·have e : (ok && (valid d && decide (b.length ≤ 400))) = false := by
   cases h : (ok && (valid d && decide (b.length ≤ 400))) with
   | false => rfl
   | true =>
    simp only [Bool.and_eq_true, decide_eq_true_eq] at h
    exact absurd h hc
  rw [e, findP_not (by rw [hsp]; exact hc)]
  rfl
end
end Go.Vw
