import Derived.Test.YtfdcdeahjejlmaaGreatDoorVwP34
namespace Go.Vw
open Go.RowKit Dat
theorem idx_getD {s : List UInt8} {i : Nat} (h : i < s.length) : idx s (i : Int) = some (s.getD i 0) := by
 rw [ix_ h, gD_, gG_ h]; rfl
theorem get_getD {s : List UInt8} {i : Nat} (h : i < s.length) : s[i]? = some (s.getD i 0) := by
 rw [gD_, gG_ h]; rfl
theorem take_getD {s : List UInt8} {i j : Nat} (h : i < j) : (s.take j).getD i 0 = s.getD i 0 := by
 rw [gD_, gD_, List.getElem?_take, iP_ h]
theorem drop_getD {b : List UInt8} {k i : Nat} : (b.drop k).getD i 0 = b.getD (k + i) 0 := by
 rw [gD_, gD_, drop_get]
def nmS (s : List UInt8) : Nat := (s.getD 1 0).toNat
def szS (s : List UInt8) : Nat := 256 * (s.getD (nmS s + 3) 0).toNat + (s.getD (nmS s + 4) 0).toNat
theorem nmS_lt (s : List UInt8) : nmS s < 256 := (s.getD 1 0).toNat_lt
theorem szS_lt (s : List UInt8) : szS s < 65536 := by
 unfold szS
 have h1 := (s.getD (nmS s + 3) 0).toNat_lt
 have h2 := (s.getD (nmS s + 4) 0).toNat_lt
 omega
theorem lenS_short {s : List UInt8} (h : s.length < 2) : lenS s = none := by
 unfold lenS; rw [gN_ (by omega)]
theorem lenS_if {s : List UInt8} (h : 2 ≤ s.length) : lenS s = if nmS s + 6 + szS s ≤ s.length then some (nmS s + 6 + szS s) else none := by
 unfold lenS
 rw [get_getD (show 1 < s.length by omega)]
 simp only
 by_cases h1 : nmS s + 4 < s.length
 ·have e1 := get_getD (show nmS s + 3 < s.length by omega)
  have e2 := get_getD h1
  unfold nmS at e1 e2
  rw [e1, e2]; rfl
 ·rw [iN_ (by omega)]
  have e2 : s[(s.getD 1 0).toNat + 4]? = none := gN_ (by unfold nmS at h1; omega)
  rw [e2]
  cases s[(s.getD 1 0).toNat + 3]? <;> rfl
def recS (s data : List UInt8) : Record := ⟨byteI (s.getD 0 0), ⟨(s.drop 2).take (nmS s)⟩, byteI (s.getD (nmS s + 2) 0), data⟩
def pkS (s : List UInt8) : List UInt8 := (s.drop (nmS s + 5)).take (szS s)
theorem decS_if {s : List UInt8} (h : 2 ≤ s.length) : decS s = if nmS s + 6 + szS s ≤ s.length then (match unpP (pkS s) with
  | none => none
  | some data => if validR (recS s data) = true ∧ encP (recS s data) = s.take (nmS s + 6 + szS s) then some (recS s data, nmS s + 6 + szS s) else none) else none := by
 unfold decS
 rw [lenS_if h]
 by_cases hl : nmS s + 6 + szS s ≤ s.length
 ·rw [iP_ hl, iP_ hl]
  simp only
  have e1 : (s.take (nmS s + 6 + szS s)).getD 1 0 = s.getD 1 0 := take_getD (by omega)
  have e0 : (s.take (nmS s + 6 + szS s)).getD 0 0 = s.getD 0 0 := take_getD (by omega)
  have e2 : (s.take (nmS s + 6 + szS s)).getD (nmS s + 2) 0 = s.getD (nmS s + 2) 0 := take_getD (by omega)
  have hn : ((s.take (nmS s + 6 + szS s)).getD 1 0).toNat = nmS s := by rw [e1]; rfl
  have ep : packedOf (s.take (nmS s + 6 + szS s)) = pkS s := by
   unfold packedOf pkS
   rw [hn, List.length_take, Nat.min_eq_left hl, List.drop_take, List.take_take]
   congr 1
   omega
  have er : ∀ data, recOf (s.take (nmS s + 6 + szS s)) data = recS s data := by
   intro data
   unfold recOf recS
   rw [hn, e0, e2, List.drop_take, List.take_take, show min (nmS s) (nmS s + 6 + szS s - 2) = nmS s by omega]
  unfold coreR
  rw [ep]
  cases unpP (pkS s) with
  | none => rfl
  | some data =>
   simp only [er]
   by_cases hv : validR (recS s data) = true ∧ encP (recS s data) = s.take (nmS s + 6 + szS s)
   ·rw [iP_ hv, iP_ hv]
   ·rw [iN_ hv, iN_ hv]
 ·rw [iN_ hl, iN_ hl]
theorem decS_short {s : List UInt8} (h : s.length < 2) : decS s = none := by unfold decS; rw [lenS_short h]
def zeroR : Record := ⟨0, ⟨[]⟩, 0, []⟩
def decO (k : Nat) : Option (Record × Nat) → Record × Int × Bool
 | some (r, j) => (r, ((k + j : Nat) : Int), true)
 | none => (zeroR, (k : Int), false)
theorem spec_Equal (x y : List UInt8) : M_spec_EqualBytes x y = some (x == y) := by
 unfold M_spec_EqualBytes
 by_cases hl : x.length = y.length
 ·rw [show ((x.length : Int) != (y.length : Int)) = false by simp [hl]]
  simp only [bF_, fF_]
  rw [forN_anyN (fun k => decide (x[k]? ≠ y[k]?)) false (fun k hk _ => by
   rw [ix_ hk, ix_ (show k < y.length by omega), bd_some, bd_some]
   rw [show ((byteI x[k]) != (byteI (y[k]'(by omega)))) = decide (x[k]? ≠ y[k]?) by
    rw [gG_ hk, gG_ (show k < y.length by omega), Bool.eq_iff_iff, bne_iff_ne, dE_, ne_eq, ne_eq, byteI_inj, oI_]]
   by_cases h : x[k]? ≠ y[k]?
   ·rw [dT_ h]; rfl
   ·rw [dF_ h]; rfl), bd_some]
  by_cases h : x = y
  ·subst h
   rw [show ((List.range x.length).any fun k => decide (x[k]? ≠ x[k]?)) = false by rw [List.any_eq_false]; intro k _; simp]
   simp [el]
  ·rw [show ((List.range x.length).any fun k => decide (x[k]? ≠ y[k]?)) = true by
    rw [List.any_eq_true]
    refine Classical.byContradiction fun hn => h (List.ext_getElem? fun i => Classical.byContradiction fun hi => hn ⟨i, List.mem_range.2 ?_, dT_ hi⟩)
    refine Classical.byContradiction fun hlt => hi ?_
    rw [gN_ (by omega), gN_ (by omega)]]
   simp [el, h]
 ·rw [show ((x.length : Int) != (y.length : Int)) = true by rw [bne_iff_ne]; omega, iP_ rfl]
  congr 1
  symm; rw [beq_eq_false_iff_ne]; rintro rfl; exact hl rfl
theorem or_size (h l : UInt8) : bitop .i64 (· ||| ·) (shlK .i64 (byteI h) 8) (byteI l) = ((256 * h.toNat + l.toNat : Nat) : Int) := by
 rw [or_byte (byteI_nn h) (by have := byteI_lt h; omega)]
 unfold intF byteI; omega
theorem cpy_whole {l : List UInt8} {m : Nat} (h : m ≤ l.length) : cpy (List.replicate m 0) l = l.take m := by
 unfold cpy
 rw [List.length_replicate, List.drop_of_length_le (by rw [List.length_replicate]; exact h), List.append_nil]
theorem slc_rest {b : List UInt8} {k : Nat} (h : k ≤ b.length) : slc b (k : Int) (b.length : Int) = some (b.drop k) := by
 have := slc_drop (b := b) (k := k) (j := b.length - k) (by omega)
 rw [show ((k + (b.length - k) : Nat) : Int) = (b.length : Int) by omega] at this
 rw [this, List.take_of_length_le (by rw [List.length_drop]; omega)]
theorem impl_Decode {b : List UInt8} (hb : b.length ≤ ML) {k : Nat} (hk : k ≤ b.length) {n : Nat} (hn : 1060100 ≤ n) : M_impl_DecodeRecord n b (k : Int) = some (decO k (decS (b.drop k))) := by
 have hML := MLv; have hMX := MXv; have hLIM := LIMv
 unfold M_impl_DecodeRecord
 have hdl : (b.drop k).length = b.length - k := List.length_drop
 rw [dF_ (show ¬ (k : Int) < 0 by omega), dF_ (show ¬ (b.length : Int) < (k : Int) by omega)]
 simp only [bF_, fF_, bd_some]
 rw [isub_of (by omega) (by omega)]
 by_cases h2 : b.length - k < 2
 ·rw [dT_ (by omega), iP_ rfl, decS_short (by omega)]; rfl
 rw [dF_ (by omega), iN_ (by simp), slc_rest hk, bd_some]
 generalize hs : b.drop k = s at *
 have hc := nmS_lt s
 have hz := szS_lt s
 have hbn : byteI (s.getD 1 0) = (nmS s : Int) := rfl
 rw [show (1 : Int) = ((1 : Nat) : Int) from rfl, idx_getD (show 1 < s.length by omega), bd_some, hbn, decS_if (by omega)]
 rw [ia_ (y := 6) (by omega) (by omega)]
 by_cases h6 : s.length < nmS s + 6
 ·rw [dT_ (by omega), iP_ rfl, iN_ (by omega)]; rfl
 rw [dF_ (by omega), iN_ (by simp), ia_ (y := 3) (by omega) (by omega), ia_ (y := 4) (by omega) (by omega)]
 rw [show ((nmS s : Int) + 3) = ((nmS s + 3 : Nat) : Int) by omega, show ((nmS s : Int) + 4) = ((nmS s + 4 : Nat) : Int) by omega, idx_getD (by omega), bd_some, idx_getD (by omega), bd_some, or_size]
 rw [show 256 * (s.getD (nmS s + 3) 0).toNat + (s.getD (nmS s + 4) 0).toNat = szS s from rfl]
 rw [show ((nmS s : Int) + 6) = ((nmS s + 6 : Nat) : Int) by omega, ia_ (x := ((nmS s + 6 : Nat) : Int)) (by omega) (by omega)]
 by_cases hl : nmS s + 6 + szS s ≤ s.length
 ·rw [dF_ (by omega), iN_ (by simp), iP_ hl, mk0_of (by omega), bd_some, ia_ (y := 5) (by omega) (by omega), show ((nmS s : Int) + 5) = ((nmS s + 5 : Nat) : Int) by omega, slc_rest (by omega), bd_some, cpy_whole (by rw [List.length_drop]; omega)]
  rw [show (s.drop (nmS s + 5)).take (szS s) = pkS s from rfl]
  have hpl : (pkS s).length ≤ 65536 := by unfold pkS; rw [List.length_take]; omega
  rw [impl_Unpack (by omega) (by omega)]
  rw [show (0 : Int) = ((0 : Nat) : Int) from rfl, idx_getD (show 0 < s.length by omega)]
  rw [ia_ (x := 2) (by omega) (by omega), show (2 : Int) + (nmS s : Int) = ((2 + nmS s : Nat) : Int) by omega, show (2 : Int) = ((2 : Nat) : Int) from rfl, slc_drop (by omega)]
  rw [ia_ (y := ((2 : Nat) : Int)) (by omega) (by omega), show (nmS s : Int) + ((2 : Nat) : Int) = ((nmS s + 2 : Nat) : Int) by omega, idx_getD (show nmS s + 2 < s.length by omega)]
  rw [show slc s ((0 : Nat) : Int) (((nmS s + 6 : Nat) : Int) + (szS s : Int)) = some (s.take (nmS s + 6 + szS s)) by
   have := slc_drop (b := s) (k := 0) (j := nmS s + 6 + szS s) (by omega)
   rw [Nat.zero_add, List.drop_zero] at this
   rw [← this]; congr 1]
  cases hu : unpP (pkS s) with
  | none => rfl
  | some data =>
   simp only [bd2_some, bd_some, nT_, bF_, fF_]
   rw [show (⟨byteI (s.getD 0 0), (⟨(s.drop 2).take (nmS s)⟩ : Str), byteI (s.getD (nmS s + 2) 0), data⟩ : Record) = recS s data from rfl]
   rw [impl_IsValidRecord (by omega), impl_Encode (by omega)]
   simp only [bd_some]
   cases hv : validR (recS s data) with
   | false =>
    simp only [Bool.not_false, fT_, bd_some, bF_, false_and, fF_]; rfl
   | true =>
    simp only [nT_, bF_, fF_, true_and]
    rw [show M_impl_EqualBytes (encP (recS s data)) (s.take (nmS s + 6 + szS s)) = some (encP (recS s data) == s.take (nmS s + 6 + szS s)) from rfl, bd_some, bd_some]
    by_cases he : encP (recS s data) = s.take (nmS s + 6 + szS s)
    ·rw [show (encP (recS s data) == s.take (nmS s + 6 + szS s)) = true by simpa using he, iN_ (by simp), iP_ he]
     unfold decO
     simp only
     rw [ia_ (x := (k : Int)) (y := (nmS s : Int)) (by omega) (by omega), ia_ (x := (k : Int) + (nmS s : Int)) (by omega) (by omega), ia_ (x := (k : Int) + (nmS s : Int) + 6) (by omega) (by omega)]
     rw [show (k : Int) + (nmS s : Int) + 6 + (szS s : Int) = ((k + (nmS s + 6 + szS s) : Nat) : Int) by omega]
    ·rw [show (encP (recS s data) == s.take (nmS s + 6 + szS s)) = false by simpa using he, show (!false) = true from rfl, iP_ rfl, iN_ he]; rfl
 ·rw [dT_ (by omega), iP_ rfl, iN_ hl]; rfl
theorem pk_none {s : List UInt8} (hl : nmS s + 6 + szS s ≤ s.length) (hu : unpP (pkS s) = none) : ¬ encP (recS s []) = s.take (nmS s + 6 + szS s) := by
 intro he
 have hv : validR (recS s []) = true := encP_ne.1 (by rw [he]; intro h; have := congrArg List.length h; rw [List.length_take, Nat.min_eq_left hl, List.length_nil] at this; omega)
 have h1 := encP_len hv
 rw [he] at h1
 have h2 : (recS s []).name.b.length = nmS s := by simp only [recS, List.length_take, List.length_drop]; omega
 have h3 : (packP (recS s []).data).length = 0 := rfl
 rw [h2, h3, List.length_take] at h1
 have h4 : szS s = 0 := by omega
 unfold pkS at hu
 rw [h4, List.take_zero, unpP_nil] at hu
 cases hu
theorem two_bytes {s : List UInt8} {i : Nat} (h : i + 2 ≤ s.length) : (s.drop i).take 2 = [s.getD i 0, s.getD (i + 1) 0] := by
 rw [dC_ (by omega), dC_ (by omega)]
 simp only [List.take_succ_cons, List.take_zero]
 rw [gD_, gD_, gG_, gG_]
 rfl
theorem int_two (h l : UInt8) : intOf [h, l] false = ((256 * h.toNat + l.toNat : Nat) : Int) := by
 simp only [intOf, bF_, fF_, List.foldl_cons, List.foldl_nil, intF, byteI]
 omega
theorem slc_in {b : List UInt8} {k i j : Nat} (h : k + i + j ≤ b.length) : slc b ((k + i : Nat) : Int) ((k + i + j : Nat) : Int) = some (((b.drop k).drop i).take j) := by
 rw [slc_drop h, List.drop_drop]
theorem spec_Decode {b : List UInt8} (hb : b.length ≤ ML) {k : Nat} (hk : k ≤ b.length) {n : Nat} (hn : 1060100 ≤ n) : M_spec_DecodeRecord n b (k : Int) = some (decO k (decS (b.drop k))) := by
 have hML := MLv; have hMX := MXv; have hLIM := LIMv
 unfold M_spec_DecodeRecord
 have hdl : (b.drop k).length = b.length - k := List.length_drop
 rw [spec_l1In, isub_of (by omega) (by omega), dT_ (show (0 : Int) ≤ (k : Int) by omega), bd_some, Bool.true_and]
 by_cases h2 : b.length - k < 2
 ·rw [dF_ (by omega), decS_short (by omega)]; rfl
 rw [dT_ (by omega)]
 simp only [nT_, bF_, fF_]
 have hg : ∀ i, k + i < b.length → idx b ((k + i : Nat) : Int) = some ((b.drop k).getD i 0) := fun i hi => by rw [idx_getD hi, drop_getD]
 have hsl : ∀ i j, k + i + j ≤ b.length → slc b ((k + i : Nat) : Int) ((k + i + j : Nat) : Int) = some (((b.drop k).drop i).take j) := fun i j h => slc_in h
 generalize hs : b.drop k = s at *
 have hc := nmS_lt s
 have hz := szS_lt s
 have hbn : byteI (s.getD 1 0) = (nmS s : Int) := rfl
 rw [ia_ (x := (k : Int)) (y := 1) (by omega) (by omega), show ((k : Int) + 1) = ((k + 1 : Nat) : Int) by omega, hg 1 (by omega), bd_some, hbn, decS_if (by omega)]
 rw [ia_ (x := (k : Int)) (y := 2) (by omega) (by omega), show ((k : Int) + 2) = ((k + 2 : Nat) : Int) by omega]
 rw [ia_ (x := ((k + 2 : Nat) : Int)) (y := (nmS s : Int)) (by omega) (by omega), show (((k + 2 : Nat) : Int) + (nmS s : Int)) = ((k + (2 + nmS s) : Nat) : Int) by omega]
 rw [ia_ (x := ((k + (2 + nmS s) : Nat) : Int)) (y := 3) (by omega) (by omega), ia_ (x := ((k + (2 + nmS s) : Nat) : Int)) (y := 1) (by omega) (by omega)]
 by_cases h5 : s.length < nmS s + 5
 ·rw [dT_ (by omega), iP_ rfl, iN_ (by omega)]; rfl
 rw [dF_ (by omega), iN_ (by simp)]
 rw [show (((k + (2 + nmS s) : Nat) : Int) + 1) = ((k + (nmS s + 3) : Nat) : Int) by omega, show (((k + (2 + nmS s) : Nat) : Int) + 3) = ((k + (nmS s + 3) + 2 : Nat) : Int) by omega, hsl (nmS s + 3) 2 (by omega), bd_some, two_bytes (by omega), spec_ReadInteger _ _ (by simp), bd_some, int_two]
 rw [show 256 * (s.getD (nmS s + 3) 0).toNat + (s.getD (nmS s + 3 + 1) 0).toNat = szS s from rfl]
 rw [show ((k + (nmS s + 3) + 2 : Nat) : Int) = ((k + (nmS s + 5) : Nat) : Int) by omega, ia_ (x := ((k + (nmS s + 5) : Nat) : Int)) (y := (szS s : Int)) (by omega) (by omega), show (((k + (nmS s + 5) : Nat) : Int) + (szS s : Int)) = ((k + (nmS s + 5) + szS s : Nat) : Int) by omega]
 by_cases hl : nmS s + 6 + szS s ≤ s.length
 ·rw [dF_ (by omega), iN_ (by simp), iP_ hl, hsl (nmS s + 5) (szS s) (by omega), bd_some]
  rw [show (s.drop (nmS s + 5)).take (szS s) = pkS s from rfl]
  have hpl : (pkS s).length ≤ 65536 := by unfold pkS; rw [List.length_take]; omega
  rw [spec_Unpack (by omega) (by omega)]
  have h0 := hg 0 (by omega)
  rw [Nat.add_zero] at h0
  have hm := hsl 2 (nmS s) (by omega)
  rw [show ((k + 2 + nmS s : Nat) : Int) = ((k + (2 + nmS s) : Nat) : Int) by omega] at hm
  have he := hsl 0 (nmS s + 6 + szS s) (by omega)
  rw [Nat.add_zero, List.drop_zero] at he
  rw [h0, hm, hg (2 + nmS s) (by omega), Nat.add_comm 2 (nmS s), ia_ (x := ((k + (nmS s + 5) + szS s : Nat) : Int)) (y := 1) (by omega) (by omega), show (((k + (nmS s + 5) + szS s : Nat) : Int) + 1) = ((k + (nmS s + 6 + szS s) : Nat) : Int) by omega, he]
  have fin : ∀ data, (bd (α := Bool) (if (((encP (recS s data)).length : Int) == 0) = true then some true else bd (some (s.take (nmS s + 6 + szS s))) fun x235 => bd (M_spec_EqualBytes (encP (recS s data)) x235) fun r253 => some (!r253)) (fun x228 => if x228 = true then some ((⟨0, (⟨[]⟩ : Str), 0, ([] : List UInt8)⟩ : Record), (k : Int), false) else some (recS s data, ((k + (nmS s + 6 + szS s) : Nat) : Int), true))) = some (decO k (if validR (recS s data) = true ∧ encP (recS s data) = s.take (nmS s + 6 + szS s) then some (recS s data, nmS s + 6 + szS s) else none)) := by
   intro data
   cases hv : validR (recS s data) with
   | false =>
    have : encP (recS s data) = [] := by unfold encP; rw [hv]; rfl
    rw [this]
    simp only [List.length_nil, show ((((0 : Nat) : Int)) == 0) = true from rfl, fT_, bd_some, bF_, false_and, fF_]; rfl
   | true =>
    have hne := encP_len hv
    rw [show (((encP (recS s data)).length : Int) == 0) = false by rw [beq_eq_false_iff_ne]; omega, iN_ (by simp), bd_some, spec_Equal, bd_some, bd_some]
    by_cases he : encP (recS s data) = s.take (nmS s + 6 + szS s)
    ·rw [show (encP (recS s data) == s.take (nmS s + 6 + szS s)) = true by simpa using he, iN_ (by simp), iP_ ⟨rfl, he⟩]; rfl
    ·rw [show (encP (recS s data) == s.take (nmS s + 6 + szS s)) = false by simpa using he, show (!false) = true from rfl, iP_ rfl, iN_ (fun h => he h.2)]; rfl
  cases hu : unpP (pkS s) with
  | none =>
   simp only [bd2_some, bd_some]
   rw [show (⟨byteI (s.getD 0 0), (⟨(s.drop 2).take (nmS s)⟩ : Str), byteI (s.getD (nmS s + 2) 0), []⟩ : Record) = recS s [] from rfl, spec_Encode (by omega), bd_some]
   have := fin []
   rw [bd_some] at this
   rw [this, iN_ (fun h => pk_none hl hu h.2)]
  | some data =>
   simp only [bd2_some, bd_some]
   rw [show (⟨byteI (s.getD 0 0), (⟨(s.drop 2).take (nmS s)⟩ : Str), byteI (s.getD (nmS s + 2) 0), data⟩ : Record) = recS s data from rfl, spec_Encode (by omega), bd_some]
   have := fin data
   rw [bd_some] at this
   exact this
 ·rw [dT_ (by omega), iP_ rfl, iN_ hl]; rfl
end Go.Vw
