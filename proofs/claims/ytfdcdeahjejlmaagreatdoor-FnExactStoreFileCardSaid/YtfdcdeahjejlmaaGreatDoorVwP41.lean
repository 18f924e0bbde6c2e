import Derived.Test.YtfdcdeahjejlmaaGreatDoorVwP40
namespace Go.Vw
open Go.RowKit Dat
theorem push_loop {α ρ : Type} {l : List α} {body : Nat → List α → Option (Out (List α) ρ)} (hl : l.length ≤ MX) (hb : ∀ k (hk : k < l.length) (c : List α), c.length ≤ MX → body k c = some (.next (c ++ [l[k]]))) :
  forN body l.length 0 [] = some (.inl l) := by
 have h := nextAt (body := body) (fun k => l.take k) (n := l.length) (s := []) rfl (fun k hk => by
  rw [hb k hk _ (by rw [List.length_take]; omega), take_snoc hk])
 rw [h, List.take_length]
theorem app_nil {α : Type} {l : List α} (h : l.length ≤ ML) : app ([] : List α) l = some l := by
 have := MLv; have := LIMv
 rw [app_of (by simp only [List.length_nil]; omega)]; rfl
theorem impl_copyRule {r : Rule} (h : SmR r) : M_impl_copyRule r = some r := by
 have hMX := MXv; have hML := MLv
 have h1 := h.bytes; have h2 := h.names; have h3 := h.tags; have h4 := h.kids
 unfold M_impl_copyRule
 rw [app_nil (by omega), bd_some, app_nil (by omega), bd_some, app_nil (by omega), bd_some, app_nil (by omega), bd_some]
theorem spec_copyRule {r : Rule} (h : SmR r) : M_spec_l4Rule r = some r := impl_copyRule h
theorem impl_copyDesc {d : Desc} (h : SmD d) : M_impl_CopyDescription d = some d := by
 have hMX := MXv; have hLIM := LIMv; have hr := h.rules
 unfold M_impl_CopyDescription
 rw [mk0_of (by omega), bd_some, push_loop h.rules (fun k hk c hc => by
  rw [ix_ hk, bd_some, impl_copyRule (h.each _ (gE_ hk)), bd_some, psh_of (by omega), bd_some])]
 rfl
theorem spec_copyDesc {d : Desc} (h : SmD d) : M_spec_CopyDescription d = some d := by
 have hMX := MXv; have hLIM := LIMv; have hr := h.rules
 unfold M_spec_CopyDescription
 rw [push_loop h.rules (fun k hk c hc => by
  rw [ix_ hk, bd_some, spec_copyRule (h.each _ (gE_ hk)), bd_some, psh_of (by omega), bd_some])]
 rfl
theorem impl_copyReg {r : Registry} (hl : r.versions.length ≤ MX) (h : ∀ d ∈ r.versions, SmD d) : M_impl_copyRegistry r = some r := by
 have hMX := MXv; have hLIM := LIMv
 unfold M_impl_copyRegistry
 rw [ia_ (by omega) (by omega), show (r.versions.length : Int) + 1 = ((r.versions.length + 1 : Nat) : Int) from rfl, mk0_of (by omega), bd_some, push_loop hl (fun k hk c hc => by
  rw [ix_ hk, bd_some, impl_copyDesc (h _ (gE_ hk)), bd_some, psh_of (by omega), bd_some])]
 rfl
theorem spec_copyReg {r : Registry} (hl : r.versions.length ≤ MX) (h : ∀ d ∈ r.versions, SmD d) : M_spec_l31Copy r = some r := by
 have hMX := MXv; have hLIM := LIMv
 unfold M_spec_l31Copy
 rw [push_loop hl (fun k hk c hc => by
  rw [ix_ hk, bd_some, spec_copyDesc (h _ (gE_ hk)), bd_some, psh_of (by omega), bd_some])]
 rfl
theorem impl_copyLog {l : Log} (h : l.bytes.length ≤ ML) : M_impl_copyLog l = some l := by
 unfold M_impl_copyLog
 rw [app_nil h, bd_some]
theorem spec_copyLog {l : Log} (h : l.bytes.length ≤ ML) : M_spec_l34Copy l = some l := impl_copyLog h
theorem impl_clone {a : Archive} (h : SmA a) : M_impl_Archive_clone a = some a := by
 unfold M_impl_Archive_clone
 rw [impl_copyReg h.len h.each, bd_some, impl_copyLog h.bytes, bd_some]
theorem spec_clone {a : Archive} (h : SmA a) : M_spec_l35Copy a = some a := by
 unfold M_spec_l35Copy
 rw [spec_copyReg h.len h.each, bd_some, spec_copyLog h.bytes, bd_some]
theorem encP_le (r : Record) : (encP r).length ≤ 1001 := by
 unfold encP
 cases hv : validR r with
 | false => simp
 | true =>
  have := bodyR_len hv
  simp only [fT_, List.length_append, lC_, List.length_nil]; omega
def appP (l : Log) (r : Record) : Log × Bool := if (validR r && logOk l) = true then (⟨l.bytes ++ encP r, l.stored⟩, true) else (l, false)
theorem impl_Append {l : Log} (h : l.bytes.length ≤ ML) (r : Record) {n : Nat} (hn : 1060100 ≤ n) : M_impl_AppendRecord n l r = some (appP l r) := by
 have hML := MLv; have hLIM := LIMv; have he := encP_le r
 unfold M_impl_AppendRecord appP
 rw [impl_copyLog h, bd_some, impl_IsValidRecord (by omega), bd_some]
 cases validR r with
 | false => rfl
 | true =>
  simp only [nT_, bF_, fF_, Bool.true_and]
  rw [impl_LogOk h hn, bd_some, bd_some]
  cases logOk l with
  | false => rfl
  | true =>
   simp only [nT_, bF_, fF_, fT_]
   rw [impl_Encode (by omega), bd_some, app_of (by omega), bd_some]
theorem spec_Append {l : Log} (h : l.bytes.length ≤ ML) (r : Record) {n : Nat} (hn : 1060100 ≤ n) : M_spec_AppendRecord n l r = some (appP l r) := by
 have hML := MLv; have hLIM := LIMv; have he := encP_le r
 unfold M_spec_AppendRecord appP
 rw [spec_copyLog h, bd_some, spec_LogOk h hn, bd_some]
 cases logOk l with
 | false => cases validR r <;> rfl
 | true =>
  simp only [nT_, bF_, fF_, Bool.and_true]
  rw [spec_IsValidRecord, bd_some, bd_some]
  cases validR r with
  | false => rfl
  | true =>
   simp only [nT_, bF_, fF_, fT_]
   rw [spec_Encode (by omega), bd_some, app_of (by omega), bd_some]
def putA (a : Archive) (r : Record) : Archive := ⟨a.registry, ⟨a.log.bytes ++ encP r, a.log.stored⟩⟩
theorem putA_sm {a : Archive} (h : SmA a) (hb : a.log.bytes.length ≤ MX) (r : Record) : SmA (putA a r) := by
 have hML := MLv; have hMX := MXv; have he := encP_le r
 exact ⟨h.len, h.each, by unfold putA; simp only [List.length_append]; omega⟩
def storeP (a : Archive) (r : Record) : Archive × Bool := if (validR r && logOk a.log && archOk a && archOk (putA a r)) = true then (putA a r, true) else (a, false)
theorem impl_Store {a : Archive} (h : SmA a) (hb : a.log.bytes.length ≤ MX) (nm : Str) (v : Int) (dt : List UInt8) {n : Nat} (hn : 1060100 ≤ n) : M_impl_StoreFile n a nm v dt = some (storeP a ⟨1, nm, v, dt⟩) := by
 have hp := putA_sm h hb ⟨1, nm, v, dt⟩
 unfold M_impl_StoreFile storeP
 rw [impl_clone h, bd_some, impl_Append h.bytes _ hn]
 unfold appP
 cases hv : (validR ⟨1, nm, v, dt⟩ && logOk a.log) with
 | false =>
  rfl
 | true =>
  simp only [fT_, bd2_some, nT_, bF_, fF_, Bool.true_and]
  rw [impl_ArchOk h hn, bd_some, bd_some]
  cases archOk a with
  | false => rfl
  | true =>
   simp only [nT_, bF_, fF_, Bool.true_and]
   refine (congrArg (fun z => bd z _) (impl_ArchOk hp hn)).trans ?_
   rw [bd_some]
   cases archOk (putA a ⟨1, nm, v, dt⟩) <;> rfl
theorem spec_Store {a : Archive} (h : SmA a) (hb : a.log.bytes.length ≤ MX) (nm : Str) (v : Int) (dt : List UInt8) {n : Nat} (hn : 1060100 ≤ n) : M_spec_StoreFile n a nm v dt = some (storeP a ⟨1, nm, v, dt⟩) := by
 have hp := putA_sm h hb ⟨1, nm, v, dt⟩
 unfold M_spec_StoreFile storeP
 rw [spec_clone h, bd_some, spec_Append h.bytes _ hn]
 unfold appP
 cases hv : (validR ⟨1, nm, v, dt⟩ && logOk a.log) with
 | false =>
  simp only [bF_, fF_, bd2_some]
  rw [spec_ArchOk h hn]
  cases archOk a <;> rfl
 | true =>
  simp only [fT_, bd2_some, nT_, bF_, fF_, Bool.true_and]
  rw [spec_ArchOk h hn, bd_some]
  cases archOk a with
  | false => rfl
  | true =>
   simp only [nT_, bF_, fF_, Bool.true_and]
   refine (congrArg (fun z => bd (α := Bool) (bd (α := Bool) z _) _) (spec_ArchOk hp hn)).trans ?_
   rw [bd_some, bd_some]
   cases archOk (putA a ⟨1, nm, v, dt⟩) <;> rfl
theorem storeP_facts {a : Archive} (h : SmA a) (hb : a.log.bytes.length ≤ MX) (r : Record) : SmA (storeP a r).1 ∧ mA (storeP a r).1 ≤ mA a + 1001 := by
 have he := encP_le r
 unfold storeP
 split
 ·refine ⟨putA_sm h hb r, ?_⟩
  unfold mA putA; simp only [List.length_append]; omega
 ·exact ⟨h, by show mA a ≤ mA a + 1001; omega⟩
theorem law_StoreFile {n : Nat} (hn : 4000000 ≤ n) {a : Archive} {nm : Str} {v : Int} {dt : List UInt8} (ha : LnA a) : M_laws_FnExactStoreFile n a nm v dt = some true := by
 have hMX := MXv
 unfold M_laws_FnExactStoreFile
 by_cases h1 : (1048576 : Int) < (nm.b.length : Int)
 ·rw [dT_ h1]; rfl
 rw [dF_ h1]
 simp only [bF_, fF_]
 by_cases h3 : (1048576 : Int) < (dt.length : Int)
 ·rw [dT_ h3]; rfl
 rw [dF_ h3]
 simp only [bF_, fF_]
 obtain ⟨r, hr, hr2⟩ := sz_archive ha
 rw [hr, bd_some]
 by_cases h2 : r < 0
 ·rw [dT_ h2]; rfl
 rw [dF_ h2]
 obtain ⟨_, hs, hb, hm⟩ := hr2.resolve_left h2
 have hd : dt.length ≤ MX := by omega
 simp only [bF_, fF_, to_archive hs hb, to_byte hd, bd_some, spec_Store hs hb _ _ _ (show 1060100 ≤ n by omega), impl_Store hs hb _ _ _ (show 1060100 ≤ n by omega), eq_archive, eq_byte, bd2_some, nT_, bN_]
 obtain ⟨hu, hum⟩ := storeP_facts hs hb ⟨1, nm, v, dt⟩
 generalize storeP a ⟨1, nm, v, dt⟩ = u at *
 obtain ⟨u, ok⟩ := u
 simp only [bd2_some, eq_archive, bd_some, nT_, bF_, fF_, bN_] at hu hum ⊢
 have hx := markA_two n a 1
 have hy := markA_two n u 1
 rw [mark_archive hs (by omega) (by omega) (by omega)]
 simp only [bd3_some]
 rw [mark_byte (by omega) (by omega) (by omega)]
 simp only [bd2_some]
 rw [dF_ (by omega)]
 simp only [bF_, fF_, bd_some]
 rw [mark_archive hu (by omega) (by omega) (by omega)]
 simp only [bd3_some]
 have hh := held_archive (a := u) (n := n) (by omega) (k := 1) (by omega) (by omega)
 have he : (⟨⟨(markA n u 1).1.registry.versions⟩, ⟨(markA n u 1).1.log.bytes, u.log.stored⟩⟩ : Archive) = (markA n u 1).1 := rfl
 rw [he, hh]
 simp only [bd_some, bN_, bF_, fF_]
 rw [dF_ (by omega)]
 rfl
end Go.Vw
