import Derived.Test.YtlbigkipbbhhmaaGreatDoorVwP17
import Derived.Test.YtlbigkipbbhhmaaGreatDoorVwP19
import Derived.Test.YtlbigkipbbhhmaaGreatDoorVwP13
namespace Go.Vw
open Go.RowKit Dat
section
variable {d : Desc} {b : List UInt8}
structure Placed (d : Desc) (b : List UInt8) (n : Nat) (e : Entry) (i p : Nat) : Prop where
 path : e.path.b.length ≤ n
 rule : e.rule = i
 start : e.start = p
 end_ : e.end_ = ((rdW d.rules b i p).2.1 : Nat)
 hi : i < d.rules.length
 hp : p ≤ b.length
 ok : (rdW d.rules b i p).2.2 = 0
theorem placed (hv : valid d = true) : ∀ (i : Nat), i < d.rules.length → ∀ (at_ : Nat) (path : Str) (e : Entry), at_ ≤ b.length → (rdW d.rules b i at_).2.2 = 0 → e ∈ ixW d.rules b i at_ path → ∃ i' p', Placed d b (path.b.length + 22 * i) e i' p' := by
 intro i
 induction i using Nat.strongRecOn with
 | _ i ih =>
  intro hi at_ path x ha hok hx
  obtain ⟨ks, e, h⟩ := rdW_ok hv hi ha hok
  rw [ixW_eq hv hi h path] at hx
  rcases List.mem_cons.1 hx with rfl | hx
  ·exact ⟨i, at_, Nat.le_add_right _ _, rfl, rfl, rfl, hi, ha, hok⟩
  ·obtain ⟨m, hm, hx⟩ := mem_ixL _ _ _ hx
   have hr := valid_rule hv hi
   have hkr := hr.kids _ (h.kids _ (gE_ hm))
   have hP := chain_pos h.ch m hm
   have h40 := h.small
   obtain ⟨i', p', L⟩ := ih ks[m].toNat (by omega) (by omega) _ _ x hP.1 hP.2 hx
   have hl := pathP_len (d := d) (path := path) (j := 0 + m) hr.kind (by omega)
   exact ⟨i', p', by have := L.path; omega, L.rule, L.start, L.end_, L.hi, L.hp, L.ok⟩
theorem entry_in {e : Entry} (he : e ∈ indexP d b) : valid d = true ∧ b.length ≤ 400 ∧ ∃ i p, Placed d b 1000 e i p := by
 have hok : okF d b = true := by
  cases h : okF d b with
  | true => rfl
  | false => unfold indexP at he; rw [h] at he; cases he
 unfold indexP at he
 rw [iP_ hok] at he
 obtain ⟨hv, hb, h1, _, h2, _⟩ := okF_ok hok
 have hl := (valid_len hv).2
 obtain ⟨i, p, L⟩ := placed hv _ h1 0 ⟨[]⟩ e (Nat.zero_le _) h2 he
 have := L.path
 simp only [List.length_nil] at this
 exact ⟨hv, hb, i, p, by omega, L.rule, L.start, L.end_, L.hi, L.hp, L.ok⟩
end
def isPatP (s : Str) : Bool := isStepP s || (s.b == [35] || s.b == [46, 46])
def patP (s : Str) : Option (List Str) := match s.b with
 | [] => some []
 | c :: r => if c = 47 ∧ (splitL 47 r []).all isPatP = true then some (splitL 47 r []) else none
def Pats (o : Option (List Str)) (y : List Str × Bool) : Prop := match o with
 | some l => y = (l, true)
 | none => y.2 = false
theorem acc_loop {ρ : Type} {bad : ρ} {f : Str → Bool} {l : List Str} {step : Int → Option (Out Int ρ)} (h1 : ∀ j (hj : j < l.length), 1 ≤ j → step (j : Int) = if f l[j] = true then some (.next ((j + 1 : Nat) : Int)) else some (.ret bad)) (h2 : step (l.length : Int) = some (.brk (l.length : Int))) :
  ∀ (m j n : Nat), j + m = l.length → 1 ≤ j → m < n → iter step n (j : Int) = some (if (l.drop j).all f = true then .inl (l.length : Int) else .inr bad)
 | 0, j, n, hj, _, hn => by
  obtain ⟨n, rfl⟩ : ∃ m, n = m + 1 := ⟨n - 1, by omega⟩
  have : j = l.length := by omega
  subst this
  unfold iter
  rw [h2, List.drop_length]; rfl
 | m + 1, j, n, hj, h0, hn => by
  obtain ⟨n, rfl⟩ : ∃ m, n = m + 1 := ⟨n - 1, by omega⟩
  have hlt : j < l.length := by omega
  unfold iter
  rw [h1 j hlt h0, dC_ hlt, List.all_cons]
  cases f l[j] with
  | true => simp only [fT_, Bool.true_and]; exact acc_loop h1 h2 m (j + 1) n (by omega) (by omega) (by omega)
  | false => rfl
theorem split_cons {s : Str} {c : UInt8} {r : List UInt8} (h : s.b = c :: r) : (c = 47 → splitL 47 s.b [] = ⟨[]⟩ :: splitL 47 r []) ∧ (c ≠ 47 → ∃ t q, splitL 47 s.b [] = ⟨c :: t⟩ :: q) := by
 refine ⟨fun hc => by rw [h, splitL, iP_ hc], fun hc => ?_⟩
 obtain ⟨t, q, e⟩ := splitL_head 47 r [c]
 exact ⟨t, q, by rw [h, splitL, iN_ hc, List.nil_append, e]; rfl⟩
theorem spec_l21 {n : Nat} (hn : 30 ≤ n) {s : Str} (hs : s.b.length ≤ MX) (hn2 : s.b.length + 2 ≤ n) : ∃ y, M_spec_l21Steps n s = some y ∧ Pats (patP s) y := by
 have hMX := MXv
 unfold M_spec_l21Steps patP
 by_cases h0 : s.b = []
 ·rw [h0]; exact ⟨_, rfl, rfl⟩
 rw [show (s.b == (⟨[]⟩ : Str).b) = false by simpa using h0, spec_SplitText hs hn2]
 simp only [bF_, fF_, bd_some]
 obtain ⟨c, r, hcr⟩ : ∃ c r, s.b = c :: r := by cases h : s.b with | nil => exact absurd h h0 | cons c r => exact ⟨c, r, rfl⟩
 have hl := splitL_len 47 s.b []
 obtain ⟨g1, g2⟩ := split_cons hcr
 rw [hcr]
 simp only
 rw [← hcr]
 generalize hL : splitL 47 s.b [] = l at *
 have hloop := acc_loop (ρ := (List Str) × Bool) (bad := (([] : List Str), false)) (f := isPatP) (l := l) (step := fun x208 => if (decide (x208 < (l.length : Int))) = true then bd (α := Bool) (bd (idx l x208) fun x363 => bd (M_spec_IsStep n x363) fun r375 => if (!r375) = true then bd (idx l x208) fun x396 => if (x396.b != (⟨[35]⟩ : Str).b) = true then bd (idx l x208) fun x409 => some (x409.b != (⟨[46, 46]⟩ : Str).b) else some false else some false) (fun x359 => if x359 = true then some (.ret (([] : List Str), false)) else some (.next (iadd x208 1))) else some (.brk x208))
  (fun j hj _ => by
   rw [dT_ (show (j : Int) < (l.length : Int) by omega)]
   simp only [fT_, ix_ hj, bd_some, spec_IsStep hn]
   rw [ia_ (x := (j : Int)) (by omega) (by omega)]
   unfold isPatP
   cases isStepP l[j] with
   | true => rfl
   | false =>
    simp only [Bool.not_false, fT_, Bool.false_or]
    by_cases h1 : l[j].b = [35]
    ·rw [h1]; rfl
    ·rw [show (l[j].b != [35]) = true by simpa using h1, show (l[j].b == [35]) = false by simpa using h1]
     simp only [fT_, bd_some, Bool.false_or]
     by_cases h2 : l[j].b = [46, 46]
     ·rw [h2]; rfl
     ·rw [show (l[j].b != [46, 46]) = true by simpa using h2, show (l[j].b == [46, 46]) = false by simpa using h2]; rfl)
  (by rw [dF_ (by omega)]; rfl) (l.length - 1) 1 n (by omega) (Nat.le_refl _) (by omega)
 simp only [Int.natCast_one] at hloop
 rw [hloop]
 by_cases hc : c = 47
 ·rw [g1 hc]
  have ht := (splitL_len 47 r []).1
  have hlen : (splitL 47 r []).length < l.length := by rw [g1 hc]; simp
  generalize splitL 47 r [] = t at *
  simp only [List.drop_succ_cons, List.drop_zero, bd_some, hc, true_and]
  by_cases ha : t.all isPatP = true
  ·rw [iP_ ha, iP_ ha]
   simp only [el_inl]
   rw [show slc ((⟨[]⟩ : Str) :: t) 1 (((⟨[]⟩ : Str) :: t).length : Int) = some t by rw [slc_of (by omega) (by simp; omega) (by omega)]; simp]
   rw [bd_some, idx_zero (by simp), bd_some]
   simp only [List.getElem_cons_zero, bQ_, fT_, bd_some, un2]
   rw [dT_ (by simp; omega)]
   exact ⟨_, rfl, rfl⟩
  ·rw [iN_ ha, iN_ ha]
   exact ⟨_, rfl, rfl⟩
 ·obtain ⟨t, q, e⟩ := g2 hc
  rw [iN_ (show ¬ (c = 47 ∧ (splitL 47 r []).all isPatP = true) from fun h => hc h.1), e]
  simp only [List.drop_succ_cons, List.drop_zero, bd_some]
  by_cases ha : q.all isPatP = true
  ·rw [iP_ ha]
   simp only [el_inl]
   rw [show slc ((⟨c :: t⟩ : Str) :: q) 1 (((⟨c :: t⟩ : Str) :: q).length : Int) = some q by rw [slc_of (by omega) (by simp; omega) (by omega)]; simp]
   rw [bd_some, idx_zero (by simp), bd_some]
   exact ⟨_, rfl, rfl⟩
  ·rw [iN_ ha]
   exact ⟨_, rfl, rfl⟩
theorem impl_pat1 {n : Nat} (hn : 30 ≤ n) (s : Str) : M_impl_splitPattern_1 n s = some (isPatP s) := by
 unfold M_impl_splitPattern_1 isPatP
 rw [impl_IsStep hn]
 simp only [bd_some]
 cases isStepP s <;> simp only [bF_, fF_, fT_, bd_some, Bool.true_or, Bool.false_or]
 cases (s.b == [35]) <;> simp only [bF_, fF_, fT_, bd_some, Bool.true_or, Bool.false_or]
theorem impl_splitPat {n : Nat} (hn : 30 ≤ n) {s : Str} (hs : s.b.length ≤ MX) : ∃ y, M_impl_splitPattern n s = some y ∧ Pats (patP s) y := by
 have hMX := MXv
 unfold M_impl_splitPattern M_impl_splitWith_impl_splitPattern_1 patP
 by_cases h0 : s.b = []
 ·rw [h0]; exact ⟨_, rfl, rfl⟩
 rw [show (s.b == (⟨[]⟩ : Str).b) = false by simpa using h0]
 obtain ⟨c, r, hcr⟩ : ∃ c r, s.b = c :: r := by cases h : s.b with | nil => exact absurd h h0 | cons c r => exact ⟨c, r, rfl⟩
 have hl := splitL_len 47 s.b []
 obtain ⟨g1, _⟩ := split_cons hcr
 rw [impl_SplitText hs, idx_zero (by rw [hcr]; simp)]
 simp only [bF_, fF_, bd_some]
 have hc0 : s.b[0]'(by rw [hcr]; simp) = c := by simp [hcr]
 rw [hc0, show (byteI c != byteI (47 : UInt8)) = !decide (c = 47) by unfold bne; rw [beqB], hcr]
 simp only
 by_cases hc : c = 47
 ·rw [← hcr, g1 hc]
  rw [g1 hc] at hl
  clear g1
  have hl2 := (splitL_len 47 r []).1
  generalize splitL 47 r [] = l at *
  rw [dT_ hc]
  simp only [nT_, bF_, fF_, hc, true_and]
  rw [show slc ((⟨[]⟩ : Str) :: l) 1 (((⟨[]⟩ : Str) :: l).length : Int) = some l by rw [slc_of (by omega) (by simp; omega) (by omega)]; simp]
  rw [bd_some, mapO_of (impl_pat1 hn), bd_some, iP_ (by rw [LIMv]; have := hl.2; rw [lC_] at this; omega)]
  have e2 : (l.map isPatP).all id = l.all isPatP := by rw [List.all_map]; rfl
  rw [e2]
  by_cases ha : l.all isPatP = true
  ·rw [iP_ ha, iP_ ha]; exact ⟨_, rfl, rfl⟩
  ·rw [iN_ ha, iN_ ha]; exact ⟨_, rfl, rfl⟩
 ·rw [dF_ hc, iN_ (show ¬ (c = 47 ∧ (splitL 47 r []).all isPatP = true) from fun h => hc h.1)]
  exact ⟨_, rfl, rfl⟩
end Go.Vw
