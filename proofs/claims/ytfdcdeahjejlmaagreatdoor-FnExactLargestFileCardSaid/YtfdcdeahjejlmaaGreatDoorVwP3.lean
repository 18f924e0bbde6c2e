import Derived.Test.YtfdcdeahjejlmaaGreatDoorVwP2
namespace Go.Vw
open Go.RowKit Dat
abbrev zV : Val := ⟨0, ([] : List UInt8), ([] : List Val)⟩
theorem LIMv : LIM = 4294967296 := rfl
theorem MXv : MX = 1048576 := rfl
def piece (b : List UInt8) (p q : Nat) : List UInt8 := (b.take q).drop p
theorem slc_piece {b : List UInt8} {p q : Nat} (h1 : p ≤ q) (h2 : q ≤ b.length) : slc b (p : Int) (q : Int) = some (piece b p q) := by
 rw [slc_of (by omega) (by omega) (by omega)]; rfl
theorem piece_len {b : List UInt8} {p q : Nat} (h2 : q ≤ b.length) : (piece b p q).length = q - p := by
 unfold piece; simp; omega
def rdInt (b : List UInt8) (r : Rule) (at_ : Nat) : Option Int := if (b.length : Int) - at_ < r.size then none else some (intOf (piece b at_ (at_ + r.size.toNat)) r.little)
def isInt (r : Rule) : Prop := r.kind = 1 ∧ 1 ≤ r.size ∧ r.size ≤ 4
theorem rdInt_range {b : List UInt8} {r : Rule} {at_ : Nat} {n : Int} (hr : isInt r) (h : rdInt b r at_ = some n) : 0 ≤ n ∧ n < 4294967296 ∧ at_ + r.size.toNat ≤ b.length := by
 unfold rdInt at h
 split at h
 ·cases h
 ·obtain ⟨_, h1, h4⟩ := hr
  cases Option.some.inj h
  have := intOf_small (piece b at_ (at_ + r.size.toNat)) r.little (by rw [piece_len (by omega)]; omega)
  exact ⟨this.1, this.2, by omega⟩
section
variable {d : Desc} {b : List UInt8} {r : Rule} {k : Int} {at_ : Nat}
theorem spec_l11Integer (hk : idx d.rules k = some r) (hr : isInt r) (hb : b.length ≤ MX) (ha : at_ ≤ b.length) :
  M_spec_l11Integer d k b at_ = some (match rdInt b r at_ with | none => (0, (at_ : Int), false) | some n => (n, ((at_ + r.size.toNat : Nat) : Int), true)) := by
 have hMX := MXv
 obtain ⟨_, h1, h4⟩ := hr
 unfold M_spec_l11Integer rdInt
 rw [hk, bd_some, isub_of (x := (b.length : Int)) (by omega) (by omega), ia_ (x := (at_ : Int)) (by omega) (by omega)]
 by_cases h : (b.length : Int) - at_ < r.size
 ·rw [dT_ h, iP_ rfl, iP_ h]
 ·rw [dF_ h, iN_ (by simp), iN_ h, show (at_ : Int) + r.size = ((at_ + r.size.toNat : Nat) : Int) by omega, slc_piece (by omega) (by omega), bd_some, spec_ReadInteger _ _ (by rw [piece_len (by omega)]; omega)]
  rfl
theorem impl_take {n : Int} (hb : b.length ≤ MX) (ha : at_ ≤ b.length) (h0 : 0 ≤ n) (hn : n < 4294967296) :
  M_impl_fileReader_take ⟨d, b⟩ at_ n = some (if (b.length : Int) - at_ < n then ([], some ((at_ : Int), 1)) else (piece b at_ (at_ + n.toNat), none)) := by
 have hMX := MXv
 unfold M_impl_fileReader_take M_impl_fail
 simp only
 rw [isub_of (x := (b.length : Int)) (by omega) (by omega), ia_ (x := (at_ : Int)) (by omega) (by omega)]
 by_cases h : (b.length : Int) - at_ < n
 ·rw [dT_ h, iP_ rfl, iP_ h]; rfl
 ·rw [dF_ h, iN_ (by simp), iN_ h, show (at_ : Int) + n = ((at_ + n.toNat : Nat) : Int) by omega, slc_piece (by omega) (by omega)]; rfl
theorem impl_integer (hk : idx d.rules k = some r) (hr : isInt r) (hb : b.length ≤ MX) (ha : at_ ≤ b.length) :
  M_impl_fileReader_integer ⟨d, b⟩ k at_ = some (match rdInt b r at_ with | none => (0, (at_ : Int), some ((at_ : Int), 1)) | some n => (n, ((at_ + r.size.toNat : Nat) : Int), none)) := by
 have hMX := MXv
 obtain ⟨_, h1, h4⟩ := hr
 unfold M_impl_fileReader_integer rdInt
 simp only
 rw [hk, bd_some, impl_take hb ha (by omega) (by omega)]
 by_cases h : (b.length : Int) - at_ < r.size
 ·rw [iP_ h, iP_ h]; rfl
 ·rw [iN_ h, iN_ h]
  simp only [bd2_some]
  rw [impl_ReadInteger _ _ (by rw [piece_len (by omega)]; omega), ia_ (by omega) (by omega), show (at_ : Int) + r.size = ((at_ + r.size.toNat : Nat) : Int) by omega]
  rfl
def cBad (b bs : List UInt8) (at_ k : Nat) : Bool := match b[at_ + k]? with
 | none => true
 | some c => byteI c != byteI (bs.getD k 0)
def constP (b bs : List UInt8) (at_ : Nat) : Nat × Int := match (List.range bs.length).find? (cBad b bs at_) with
 | none => (at_ + bs.length, 0)
 | some k => if b.length ≤ at_ + k then (at_, 1) else (at_ + k, 2)
theorem spec_l11Const (hb : b.length ≤ MX) (ha : at_ ≤ b.length) (hr : r.bytes.length ≤ MX) : M_spec_l11Const r b at_ = some (zV, ((constP b r.bytes at_).1 : Int), (constP b r.bytes at_).2) := by
 have hMX := MXv
 unfold M_spec_l11Const constP
 rw [forN_find (cBad b r.bytes at_) (fun k => if b.length ≤ at_ + k then (zV, (at_ : Int), (1 : Int)) else (zV, ((at_ + k : Nat) : Int), 2))]
 ·rw [ia_ (x := (at_ : Int)) (by omega) (by omega)]
  cases (List.range r.bytes.length).find? (cBad b r.bytes at_) with
  | none => simp only [bd_some, el_inl]; congr 3
  | some k =>
   simp only [bd_some, el_inr]
   split <;> rfl
 ·intro k hk _
  rw [ia_ (x := (at_ : Int)) (by omega) (by omega), show (at_ : Int) + k = ((at_ + k : Nat) : Int) by omega, ix_ hk]
  by_cases h : at_ + k < b.length
  ·rw [dF_ (by omega), ix_ h, show cBad b r.bytes at_ k = (byteI b[at_ + k] != byteI r.bytes[k]) by unfold cBad; rw [gG_ h, getD_get hk]]
   rw [iN_ (show ¬ b.length ≤ at_ + k by omega)]
   simp only [bd_some, bF_, fF_]
   exact ite_out _ _
  ·rw [dT_ (by omega), show cBad b r.bytes at_ k = true by unfold cBad; rw [gN_ (by omega)]]
   rw [iP_ (show b.length ≤ at_ + k by omega)]
   rfl
theorem impl_constant (hb : b.length ≤ MX) (ha : at_ ≤ b.length) (hr : r.bytes.length ≤ MX) : M_impl_fileReader_constant ⟨d, b⟩ r at_ = some (if (constP b r.bytes at_).2 = 0 then (((constP b r.bytes at_).1 : Int), none) else ((at_ : Int), some (((constP b r.bytes at_).1 : Int), (constP b r.bytes at_).2))) := by
 have hMX := MXv
 unfold M_impl_fileReader_constant constP M_impl_fail
 simp only
 rw [forN_find (cBad b r.bytes at_) (fun k => if b.length ≤ at_ + k then ((at_ : Int), some ((at_ : Int), (1 : Int))) else ((at_ : Int), some (((at_ + k : Nat) : Int), 2)))]
 ·rw [ia_ (x := (at_ : Int)) (by omega) (by omega)]
  cases (List.range r.bytes.length).find? (cBad b r.bytes at_) with
  | none => rfl
  | some k =>
   simp only [bd_some, el_inr]
   by_cases h : b.length ≤ at_ + k
   ·rw [iP_ h, iP_ h]; rfl
   ·rw [iN_ h, iN_ h]; rfl
 ·intro k hk _
  rw [ia_ (x := (at_ : Int)) (by omega) (by omega), show (at_ : Int) + k = ((at_ + k : Nat) : Int) by omega, ix_ hk]
  by_cases h : at_ + k < b.length
  ·rw [bd_some, dF_ (by omega), ix_ h, show cBad b r.bytes at_ k = (byteI b[at_ + k] != byteI r.bytes[k]) by unfold cBad; rw [gG_ h, getD_get hk]]
   rw [iN_ (show ¬ b.length ≤ at_ + k by omega)]
   simp only [bd_some, bF_, fF_]
   exact ite_out _ _
  ·rw [bd_some, dT_ (by omega), show cBad b r.bytes at_ k = true by unfold cBad; rw [gN_ (by omega)]]
   rw [iP_ (show b.length ≤ at_ + k by omega)]
   rfl
theorem constP_le (ha : at_ ≤ b.length) (bs : List UInt8) : at_ ≤ (constP b bs at_).1 ∧ (constP b bs at_).1 ≤ b.length := by
 unfold constP
 cases hf : (List.range bs.length).find? (cBad b bs at_) with
 | none =>
  simp only
  refine ⟨by omega, ?_⟩
  cases hl : bs.length with
  | zero => omega
  | succ m =>
   have := List.find?_eq_none.1 hf m (List.mem_range.2 (by omega))
   unfold cBad at this
   by_cases h : at_ + m < b.length
   ·omega
   ·rw [gN_ (by omega)] at this; simp at this
 | some k =>
  simp only
  split
  ·exact ⟨Nat.le_refl _, ha⟩
  ·exact ⟨by omega, by omega⟩
def bytesP (b : List UInt8) (at_ : Nat) (n : Int) : Val × Nat × Int := if (b.length : Int) - at_ < n then (zV, at_, 1) else (⟨0, piece b at_ (at_ + n.toNat), []⟩, at_ + n.toNat, 0)
theorem spec_l11Bytes {n : Int} (hb : b.length ≤ MX) (ha : at_ ≤ b.length) (h0 : 0 ≤ n) (hn : n < 4294967296) : M_spec_l11Bytes b at_ n = some ((bytesP b at_ n).1, ((bytesP b at_ n).2.1 : Int), (bytesP b at_ n).2.2) := by
 have hMX := MXv
 unfold M_spec_l11Bytes bytesP
 rw [isub_of (x := (b.length : Int)) (by omega) (by omega), ia_ (x := (at_ : Int)) (by omega) (by omega)]
 by_cases h : (b.length : Int) - at_ < n
 ·rw [dT_ h, iP_ rfl, iP_ h]
 ·rw [dF_ h, iN_ (by simp), iN_ h, show (at_ : Int) + n = ((at_ + n.toNat : Nat) : Int) by omega, slc_piece (by omega) (by omega), bd_some, app_of (by rw [piece_len (by omega)]; simp [LIMv]; omega)]
  simp
theorem impl_content {n : Int} (hb : b.length ≤ MX) (ha : at_ ≤ b.length) (h0 : 0 ≤ n) (hn : n < 4294967296) : M_impl_fileReader_content ⟨d, b⟩ at_ n = some (if (bytesP b at_ n).2.2 = 0 then ((bytesP b at_ n).1, ((bytesP b at_ n).2.1 : Int), none) else (zV, (at_ : Int), some (((bytesP b at_ n).2.1 : Int), (bytesP b at_ n).2.2))) := by
 have hMX := MXv
 unfold M_impl_fileReader_content bytesP
 rw [impl_take hb ha h0 hn]
 by_cases h : (b.length : Int) - at_ < n
 ·rw [iP_ h, iP_ h]; rfl
 ·rw [iN_ h, iN_ h]
  simp only [bd2_some]
  rw [app_of (by rw [piece_len (by omega)]; simp [LIMv]; omega), ia_ (x := (at_ : Int)) (by omega) (by omega), show (at_ : Int) + n = ((at_ + n.toNat : Nat) : Int) by omega]
  rfl
end
def tagIx (ts : List Int) (n : Int) : Option Nat := (List.range ts.length).find? (fun k => ts.getD k 0 == n)
def itemR (r : Rule) (num : Int) (i : Nat) : Int :=
 if r.kind == 5 then r.kids.getD 1 0
 else if r.kind == 6 then (if i < r.kids.length then r.kids.getD i 0 else -1)
 else if r.kind == 7 then (match tagIx r.tags num with | some k => r.kids.getD (k + 1) 0 | none => -1)
 else if r.kind == 8 then r.kids.getD 0 0
 else if r.kind == 9 then r.kids.getD 0 0
 else -1
structure KidsOk (r : Rule) : Prop where
 arr : r.kind = 5 → r.kids.length = 2
 cho : r.kind = 7 → r.kids.length = r.tags.length + 1
 opt : r.kind = 8 → r.kids.length = 1
 chk : r.kind = 9 → r.kids.length = 1
theorem tag_find {r : Rule} {num : Int} (h : r.kids.length = r.tags.length + 1) : forN (σ := Unit) (ρ := Int) (fun k440 => (fun (_ : Unit) => bd (idx r.tags ((k440 : Nat) : Int)) fun x479 => if (x479 == num) = true then bd (idx r.kids ((k440 + 1 : Nat) : Int)) fun x508 => some (.ret x508) else some (.next ()))) r.tags.length 0 () = some (match tagIx r.tags num with | some k => .inr (r.kids.getD (k + 1) 0) | none => .inl ()) := by
 unfold tagIx
 rw [forN_find (fun k => r.tags.getD k 0 == num) (fun k => r.kids.getD (k + 1) 0)]
 ·cases (List.range r.tags.length).find? (fun k => r.tags.getD k 0 == num) <;> rfl
 ·intro k hk _
  rw [ix_ hk, bd_some, getD_get hk, ix_ (show k + 1 < r.kids.length by omega), bd_some, getD_get (show k + 1 < r.kids.length by omega)]
  by_cases h : r.tags[k] = num
  ·rw [show (r.tags[k] == num) = true by simpa using h]; rfl
  ·rw [show (r.tags[k] == num) = false by simpa using h]; rfl
theorem spec_l9Item {r : Rule} (h : KidsOk r) (num : Int) (i : Nat) : M_spec_l9Item r num i = some (itemR r num i) := by
 unfold M_spec_l9Item itemR
 by_cases h5 : r.kind = 5
 ·rw [h5]; simp only [bQ_, fT_]
  rw [idx_one (by have := h.arr h5; omega), getD_get (by have := h.arr h5; omega)]; rfl
 ·rw [show (r.kind == 5) = false by simpa using h5]
  simp only [bF_, fF_]
  by_cases h6 : r.kind = 6
  ·rw [h6]; simp only [bQ_, fT_]
   by_cases hi : i < r.kids.length
   ·rw [dT_ (by omega), ix_ hi, getD_get hi, iP_ rfl, iP_ hi]; rfl
   ·rw [dF_ (by omega), iN_ (by simp), iN_ hi]; rfl
  ·rw [show (r.kind == 6) = false by simpa using h6]
   simp only [bF_, fF_]
   by_cases h7 : r.kind = 7
   ·rw [h7]; simp only [bQ_, fT_]
    rw [tag_find (h.cho h7)]
    cases tagIx r.tags num <;> rfl
   ·rw [show (r.kind == 7) = false by simpa using h7]
    simp only [bF_, fF_]
    by_cases h8 : r.kind = 8
    ·rw [h8]; simp only [bQ_, fT_, bd_some]
     rw [idx_zero (by have := h.opt h8; omega), getD_get (by have := h.opt h8; omega)]; rfl
    ·rw [show (r.kind == 8) = false by simpa using h8]
     simp only [bF_, fF_]
     by_cases h9 : r.kind = 9
     ·rw [h9]; simp only [bQ_, fT_, bd_some]
      rw [idx_zero (by have := h.chk h9; omega), getD_get (by have := h.chk h9; omega)]; rfl
     ·rw [show (r.kind == 9) = false by simpa using h9]; rfl
end Go.Vw
