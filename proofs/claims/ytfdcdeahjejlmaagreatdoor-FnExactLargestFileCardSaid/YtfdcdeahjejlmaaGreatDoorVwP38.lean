import Derived.Test.YtfdcdeahjejlmaaGreatDoorVwP37
import Derived.Test.YtfdcdeahjejlmaaGreatDoorVwP11
namespace Go.Vw
open Go.RowKit Dat
theorem impl_IsFileA {d : Desc} {b : List UInt8} (hd : SmD d) {n : Nat} (hn : 500 ≤ n) : M_impl_IsFileOf n d b = some (okF d b) := by
 unfold M_impl_IsFileOf okF
 rw [impl_ReadFile hd hn]; rfl
structure SmA (a : Archive) : Prop where
 len : a.registry.versions.length ≤ MX
 each : ∀ d ∈ a.registry.versions, SmD d
 bytes : a.log.bytes.length ≤ MX
def regOk (r : Registry) : Bool := decide (r.versions.length ≤ 8) && !(r.versions.any fun d => !valid d)
theorem impl_RegOk {r : Registry} (h : ∀ d ∈ r.versions, SmD d) {n : Nat} (hn : 14 ≤ n) : M_impl_IsValidRegistry n r = some (regOk r) := by
 unfold M_impl_IsValidRegistry regOk
 by_cases hl : r.versions.length ≤ 8
 ·rw [dF_ (by omega), iN_ (by simp), dT_ hl, Bool.true_and]
  rw [forN_any (fun d => !valid d) false (fun k hk => by
   rw [ix_ hk, bd_some, impl_IsValidDescription n hn _ (h _ (gE_ hk)), bd_some]
   cases valid r.versions[k] <;> rfl), bd_some]
  cases r.versions.any fun d => !valid d <;> rfl
 ·rw [dT_ (by omega), iP_ rfl, dF_ hl]; rfl
theorem spec_RegOk {r : Registry} (h : ∀ d ∈ r.versions, SmD d) : M_spec_IsValidRegistry r = some (regOk r) := by
 unfold M_spec_IsValidRegistry regOk
 rw [forN_any (fun d => !valid d) false (fun k hk => by
   rw [ix_ hk, bd_some, spec_IsValidDescription _ (h _ (gE_ hk)), bd_some]
   cases valid r.versions[k] <;> rfl), bd_some]
 cases r.versions.any fun d => !valid d
 ·simp only [bF_, fF_, el_inl, Bool.not_false, Bool.and_true]
  congr 1; rw [decide_eq_decide]; omega
 ·simp
def recBad (a : Archive) (r : Record) : Bool := r.kind == 1 && match a.registry.versions[r.version.toNat]? with
 | some d => !okF d r.data
 | none => true
def archOk (a : Archive) : Bool := regOk a.registry && (logOk a.log && (decide ((filesP a.log.bytes).length ≤ 20) && !((recP a.log.bytes).1.any (recBad a))))
theorem impl_ArchOk {a : Archive} (h : SmA a) {n : Nat} (hn : 1048600 ≤ n) : M_impl_IsValidArchive n a = some (archOk a) := by
 have hb := h.bytes
 unfold M_impl_IsValidArchive archOk
 rw [impl_RegOk (r := ⟨a.registry.versions⟩) h.each (by omega), bd_some, impl_LogOk (l := ⟨a.log.bytes, a.log.stored⟩) hb hn, impl_files hb hn, impl_Records hb hn]
 cases regOk a.registry with
 | false => rfl
 | true =>
  simp only [nT_, bF_, fF_, bd_some, Bool.true_and]
  cases logOk a.log with
  | false => rfl
  | true =>
   simp only [nT_, bF_, fF_, bd_some, Bool.true_and]
   by_cases hl : (filesP a.log.bytes).length ≤ 20
   ·rw [dF_ (by omega), iN_ (by simp), bd2_some, dT_ hl, Bool.true_and]
    have hle := recP_le _ _ (Nat.le_refl a.log.bytes.length)
    generalize (recP a.log.bytes).1 = rs at hle
    rw [forN_any (recBad a) false (fun k hk => by
     have hv := validR_facts (hle.2.2 _ (gE_ hk))
     rw [ix_ hk, bd_some]
     unfold recBad M_impl_hasVersion
     generalize rs[k] = r at hv
     cases hk1 : r.kind == 1 with
     | false => rfl
     | true =>
      simp only [fT_, Bool.true_and]
      rw [dT_ (show 0 ≤ r.version by omega), iP_ rfl, bd_some, bd_some]
      by_cases hlt : r.version.toNat < a.registry.versions.length
      ·rw [dT_ (show r.version < (a.registry.versions.length : Int) by omega), iN_ (by simp), idx_int (by omega) hlt, bd_some, impl_IsFileA (h.each _ (gE_ hlt)) (by omega), bd_some, bd_some, gG_ hlt]
       exact ite_out _ _
      ·rw [dF_ (show ¬ r.version < (a.registry.versions.length : Int) by omega), gN_ (by omega)]; rfl), bd_some]
    cases rs.any (recBad a) <;> rfl
   ·rw [dT_ (by omega), iP_ rfl, dF_ hl]; rfl
theorem spec_ArchOk {a : Archive} (h : SmA a) {n : Nat} (hn : 1048600 ≤ n) : M_spec_IsValidArchive n a = some (archOk a) := by
 have hb := h.bytes
 unfold M_spec_IsValidArchive archOk
 rw [spec_RegOk (r := ⟨a.registry.versions⟩) h.each, bd_some, spec_LogOk (l := ⟨a.log.bytes, a.log.stored⟩) hb hn, spec_files hb hn, spec_Records hb hn]
 cases regOk a.registry with
 | false => rfl
 | true =>
  simp only [nT_, bF_, fF_, bd_some, Bool.true_and]
  cases logOk a.log with
  | false => rfl
  | true =>
   simp only [nT_, bF_, fF_, bd_some, Bool.true_and]
   by_cases hl : (filesP a.log.bytes).length ≤ 20
   ·rw [dF_ (by omega), iN_ (by simp), bd2_some, dT_ hl, Bool.true_and]
    have hle := recP_le _ _ (Nat.le_refl a.log.bytes.length)
    generalize (recP a.log.bytes).1 = rs at hle
    rw [forN_any (recBad a) false (fun k hk => by
     have hv := validR_facts (hle.2.2 _ (gE_ hk))
     rw [ix_ hk]
     simp only [bd_some]
     unfold recBad
     generalize rs[k] = r at hv
     cases hk1 : r.kind == 1 with
     | false => rfl
     | true =>
      simp only [fT_, Bool.true_and]
      by_cases hlt : r.version.toNat < a.registry.versions.length
      ·rw [dF_ (show ¬ (a.registry.versions.length : Int) ≤ r.version by omega), iN_ (by simp), idx_int (by omega) hlt, bd_some, spec_IsFileOf (h.each _ (gE_ hlt)) (by omega), bd_some, bd_some, gG_ hlt]
       exact ite_out _ _
      ·rw [dT_ (show (a.registry.versions.length : Int) ≤ r.version by omega), gN_ (by omega)]; rfl), bd_some]
    cases rs.any (recBad a) <;> rfl
   ·rw [dT_ (by omega), iP_ rfl, dF_ hl]; rfl
def filesA (a : Archive) : List StoredFile := if archOk a = true then filesP a.log.bytes else []
theorem archOk_log {a : Archive} (h : archOk a = true) : logOk a.log = true := by
 unfold archOk at h
 simp only [aE_] at h
 exact h.2.1
theorem impl_filesOf {a : Archive} (h : SmA a) {n : Nat} (hn : 1048600 ≤ n) : M_impl_filesOf n a = some (filesA a) := by
 unfold M_impl_filesOf M_impl_ListFiles filesA
 rw [impl_ArchOk h hn, bd_some]
 cases ha : archOk a with
 | false => rfl
 | true =>
  rw [iN_ (by simp), impl_LogOk (l := ⟨a.log.bytes, a.log.stored⟩) h.bytes hn, bd_some, show logOk ⟨a.log.bytes, a.log.stored⟩ = true from archOk_log ha, iN_ (by simp), impl_files h.bytes hn]; rfl
theorem spec_List {a : Archive} (h : SmA a) {n : Nat} (hn : 1048600 ≤ n) : M_spec_ListFiles n a = some (if logOk a.log = true then filesP a.log.bytes else []) := by
 unfold M_spec_ListFiles
 rw [spec_LogOk (l := ⟨a.log.bytes, a.log.stored⟩) h.bytes hn, bd_some, show logOk ⟨a.log.bytes, a.log.stored⟩ = logOk a.log from rfl]
 cases logOk a.log with
 | false => rfl
 | true => rw [iN_ (by simp), spec_files h.bytes hn]; rfl
theorem filesP_len {b : List UInt8} (hb : b.length ≤ MX) : (filesP b).length ≤ MX := by
 have h1 := filesK_len (recP b).1 (recP b).1.length (Nat.le_refl _)
 have h2 := recP_le _ _ (Nat.le_refl b.length)
 rw [filesK_all] at h1
 unfold filesP; omega
def bigS (x : Option StoredFile) (f : StoredFile) : Option StoredFile := match x with
 | none => some f
 | some y => if y.data.length < f.data.length then some f else some y
def bigK (l : List StoredFile) (k : Nat) : Option StoredFile := (l.take k).foldl bigS none
theorem bigK_succ {l : List StoredFile} {k : Nat} (hk : k < l.length) : bigK l (k + 1) = bigS (bigK l k) l[k] := by
 unfold bigK
 rw [List.take_add_one, gG_ hk, Option.toList_some, List.foldl_append]; rfl
def bigN : Option StoredFile → Str
 | none => ⟨[]⟩
 | some x => x.name
def bigI : Option StoredFile → Str × Int
 | none => (⟨[]⟩, -1)
 | some x => (x.name, (x.data.length : Int))
def bigJ (l : List StoredFile) : Nat → Int
 | 0 => -1
 | k + 1 => if (match bigK l k, l[k]? with | some y, some f => decide (y.data.length < f.data.length) | _, _ => true) = true then (k : Int) else bigJ l k
theorem bigJ_none {l : List StoredFile} {k : Nat} (h : bigK l k = none) : bigJ l (k + 1) = k := by simp [bigJ, h]
theorem bigJ_some {l : List StoredFile} {k : Nat} {y : StoredFile} (h : bigK l k = some y) (hk : k < l.length) : bigJ l (k + 1) = if y.data.length < l[k].data.length then (k : Int) else bigJ l k := by
 simp [bigJ, h, gG_ hk]
theorem bigJ_inv (l : List StoredFile) : ∀ k, k ≤ l.length → (match bigK l k with | none => bigJ l k = -1 ∧ k = 0 | some y => 0 ≤ bigJ l k ∧ idx l (bigJ l k) = some y)
 | 0, _ => ⟨rfl, rfl⟩
 | k + 1, hk => by
  have ih := bigJ_inv l k (by omega)
  rw [bigK_succ (by omega)]
  cases hb : bigK l k with
  | none =>
   rw [bigJ_none hb]
   simp only [bigS]
   exact ⟨by omega, ix_ (by omega)⟩
  | some y =>
   rw [hb] at ih
   rw [bigJ_some hb (by omega)]
   simp only [bigS]
   by_cases h : y.data.length < l[k].data.length
   ·rw [iP_ h, iP_ h]
    exact ⟨by omega, ix_ (by omega)⟩
   ·rw [iN_ h, iN_ h]
    exact ih
theorem impl_Largest {a : Archive} (h : SmA a) {n : Nat} (hn : 1048600 ≤ n) : M_impl_LargestFile n a = some (bigN (bigK (filesA a) (filesA a).length)) := by
 unfold M_impl_LargestFile
 rw [impl_filesOf h hn, bd_some]
 generalize filesA a = l
 refine (congrArg (fun z => bd z _) (nextAt (fun k => bigI (bigK l k)) (n := l.length) rfl (fun k hk => ?_))).trans ?_
 ·rw [ix_ hk, bigK_succ hk]
  simp only [un2]
  rw [bd_some]
  have key : ∀ (nm : Str) (mo : Int) (x : StoredFile), (bd (α := Str × Int) (if (decide (mo < (x.data.length : Int))) = true then some (x.name, (x.data.length : Int)) else some (nm, mo)) (un2 fun x206 x208 => some (Out.next (ρ := Str) (x206, x208)))) = some (.next (if mo < (x.data.length : Int) then (x.name, (x.data.length : Int)) else (nm, mo))) := by
   intro nm mo x
   by_cases h : mo < (x.data.length : Int)
   ·rw [dT_ h, iP_ rfl, iP_ h]; rfl
   ·rw [dF_ h, iN_ (by simp), iN_ h]; rfl
  cases bigK l k with
  | none => exact (key ⟨[]⟩ (-1) l[k]).trans (by rw [iP_ (by omega)]; rfl)
  | some y =>
   refine (key y.name (y.data.length : Int) l[k]).trans ?_
   by_cases hlt : y.data.length < l[k].data.length
   ·rw [iP_ (by omega), show bigS (some y) l[k] = some l[k] from iP_ hlt]; rfl
   ·rw [iN_ (by omega), show bigS (some y) l[k] = some y from iN_ hlt]; rfl
 ·rw [bd_some, el_inl]
  cases bigK l l.length <;> rfl
theorem spec_Largest {a : Archive} (h : SmA a) {n : Nat} (hn : 1048600 ≤ n) : M_spec_LargestFile n a = some (bigN (bigK (filesA a) (filesA a).length)) := by
 have hMX := MXv
 unfold M_spec_LargestFile filesA
 rw [spec_List h hn, bd_some, spec_ArchOk h hn]
 have hfl := filesP_len h.bytes
 cases ha : archOk a with
 | false =>
  generalize (if logOk a.log = true then filesP a.log.bytes else []) = l
  obtain ⟨m, rfl⟩ : ∃ m, n = m + 1 := ⟨n - 1, by omega⟩
  unfold iter
  simp only [un2, bd_some]
  by_cases hl : 0 < l.length
  ·rw [dT_ (by omega)]; rfl
  ·rw [dF_ (by omega)]; rfl
 | true =>
  rw [iP_ (archOk_log ha), iP_ rfl]
  generalize filesP a.log.bytes = l at hfl
  have hi := iter_brk (σ := Int × Int) (ρ := Str) (step := un2 fun x173 x175 => bd (α := Bool) (if (decide (x175 < (l.length : Int))) = true then bd (some true) fun r223 => some r223 else some false) (fun x207 => if x207 = true then bd (α := Bool) (if (decide (x173 < 0)) = true then some true else bd (idx l x175) fun x331 => bd (idx l x173) fun x349 => some (decide ((x349.data.length : Int) < (x331.data.length : Int)))) (fun x322 => bd (α := Int) (if x322 = true then some x175 else some x173) (fun x371 => some (.next (x371, iadd x175 1)))) else some (.brk (x173, x175))))
   (fun k => (bigJ l k, (k : Int))) (s := (bigJ l l.length, (l.length : Int))) (m := n) (j0 := l.length) (by omega) (fun k hk => by
    simp only [un2]
    rw [dT_ (show (k : Int) < (l.length : Int) by omega), iP_ rfl, bd_some, bd_some, iP_ rfl, ia_ (by omega) (by omega)]
    have inv := bigJ_inv l k (by omega)
    cases hb : bigK l k with
    | none =>
     rw [hb] at inv
     rw [bigJ_none hb, dT_ (show bigJ l k < 0 by omega), iP_ rfl, bd_some, iP_ rfl, bd_some]; rfl
    | some y =>
     rw [hb] at inv
     rw [bigJ_some hb hk, dF_ (show ¬ bigJ l k < 0 by omega), iN_ (by simp), ix_ hk, bd_some, inv.2, bd_some, bd_some]
     by_cases hlt : y.data.length < l[k].data.length
     ·rw [dT_ (show (y.data.length : Int) < (l[k].data.length : Int) by omega), iP_ rfl, bd_some]
      rw [iP_ hlt]; rfl
     ·rw [dF_ (show ¬ (y.data.length : Int) < (l[k].data.length : Int) by omega), iN_ (by simp), bd_some]
      rw [iN_ hlt]; rfl) (by
    simp only [un2]
    rw [dF_ (by omega)]; rfl)
  rw [show (bigJ l 0, ((0 : Nat) : Int)) = ((-1 : Int), (0 : Int)) from rfl] at hi
  rw [hi, bd_some, el_inl]
  simp only [un2]
  have inv := bigJ_inv l l.length (Nat.le_refl _)
  cases hb : bigK l l.length with
  | none => rw [hb] at inv; rw [dT_ (by omega)]; rfl
  | some y => rw [hb] at inv; rw [dF_ (by omega), iN_ (by simp), inv.2]; rfl
end Go.Vw
