import Derived.Test.YtfdcdeahjejlmaaGreatDoorVqP2
set_option linter.unusedVariables false
namespace Go.Vw
open Go.RowKit Dat
abbrev zV : Val := ⟨0, ([] : List UInt8), ([] : List Val)⟩
theorem a_e : LIM = 4294967296 := rfl
theorem MXv : MX = 1048576 := rfl
def b_j (b : List UInt8) (p q : Nat) : List UInt8 := (b.take q).drop p
theorem f_D {b : List UInt8} {p q : Nat} (h1 : p ≤ q) (h2 : q ≤ b.length) : slc b (p : Int) (q : Int) = some (b_j b p q) := by
 rw [e_6 (by omega) (by omega) (by omega)]; rfl
theorem e_A {b : List UInt8} {p q : Nat} (h2 : q ≤ b.length) : (b_j b p q).length = q - p := by
 unfold b_j; simp; omega
def a_r (b : List UInt8) (r : e_) (at_ : Nat) : Option Int := if (b.length : Int) - at_ < r.size then none else some (c_L (b_j b at_ (at_ + r.size.toNat)) r.little)
def f_E (r : e_) : Prop := r.kind = 1 ∧ 1 ≤ r.size ∧ r.size ≤ 4
theorem c_M {b : List UInt8} {r : e_} {at_ : Nat} {n : Int} (hr : f_E r) (h : a_r b r at_ = some n) : 0 ≤ n ∧ n < 4294967296 ∧ at_ + r.size.toNat ≤ b.length := by
 unfold a_r at h
 split at h
 ·cases h
 ·obtain ⟨_, h1, h4⟩ := hr
  cases Option.some.inj h
  have := p_V (b_j b at_ (at_ + r.size.toNat)) r.little (by rw [e_A (by omega)]; omega)
  exact ⟨this.1, this.2, by omega⟩
section
variable {d : g_} {b : List UInt8} {r : e_} {k : Int} {at_ : Nat}
theorem k_c (hk : idx d.rules k = some r) (hr : f_E r) (hb : b.length ≤ MX) (ha : at_ ≤ b.length) :
  e_a d k b at_ = some (match a_r b r at_ with | none => (0, (at_ : Int), false) | some n => (n, ((at_ + r.size.toNat : Nat) : Int), true)) := by
 have hMX := MXv
 obtain ⟨_, h1, h4⟩ := hr
 unfold e_a a_r
 rw [hk, bd_some, a_h (x := (b.length : Int)) (by omega) (by omega), ia_ (x := (at_ : Int)) (by omega) (by omega)]
 by_cases h : (b.length : Int) - at_ < r.size
 ·rw [dT_ h, iP_ rfl, iP_ h]
 ·rw [dF_ h, iN_ (by simp), iN_ h, show (at_ : Int) + r.size = ((at_ + r.size.toNat : Nat) : Int) by omega, f_D (by omega) (by omega), bd_some, l_H _ _ (by rw [e_A (by omega)]; omega)]
  rfl
theorem h_J {n : Int} (hb : b.length ≤ MX) (ha : at_ ≤ b.length) (h0 : 0 ≤ n) (hn : n < 4294967296) :
  d_H ⟨d, b⟩ at_ n = some (if (b.length : Int) - at_ < n then ([], some ((at_ : Int), 1)) else (b_j b at_ (at_ + n.toNat), none)) := by
 have hMX := MXv
 unfold d_H b_p
 simp only
 rw [a_h (x := (b.length : Int)) (by omega) (by omega), ia_ (x := (at_ : Int)) (by omega) (by omega)]
 by_cases h : (b.length : Int) - at_ < n
 ·rw [dT_ h, iP_ rfl, iP_ h]; rfl
 ·rw [dF_ h, iN_ (by simp), iN_ h, show (at_ : Int) + n = ((at_ + n.toNat : Nat) : Int) by omega, f_D (by omega) (by omega)]; rfl
theorem h_K (hk : idx d.rules k = some r) (hr : f_E r) (hb : b.length ≤ MX) (ha : at_ ≤ b.length) :
  d_I ⟨d, b⟩ k at_ = some (match a_r b r at_ with | none => (0, (at_ : Int), some ((at_ : Int), 1)) | some n => (n, ((at_ + r.size.toNat : Nat) : Int), none)) := by
 have hMX := MXv
 obtain ⟨_, h1, h4⟩ := hr
 unfold d_I a_r
 simp only
 rw [hk, bd_some, h_J hb ha (by omega) (by omega)]
 by_cases h : (b.length : Int) - at_ < r.size
 ·rw [iP_ h, iP_ h]; rfl
 ·rw [iN_ h, iN_ h]
  simp only [bd2_some]
  rw [p_W _ _ (by rw [e_A (by omega)]; omega), ia_ (by omega) (by omega), show (at_ : Int) + r.size = ((at_ + r.size.toNat : Nat) : Int) by omega]
  rfl
def b_v (b bs : List UInt8) (at_ k : Nat) : Bool := match b[at_ + k]? with
 | none => true
 | some c => byteI c != byteI (bs.getD k 0)
def b_F (b bs : List UInt8) (at_ : Nat) : Nat × Int := match (List.range bs.length).find? (b_v b bs at_) with
 | none => (at_ + bs.length, 0)
 | some k => if b.length ≤ at_ + k then (at_, 1) else (at_ + k, 2)
theorem q_I (hb : b.length ≤ MX) (ha : at_ ≤ b.length) (hr : r.bytes.length ≤ MX) : f_V r b at_ = some (zV, ((b_F b r.bytes at_).1 : Int), (b_F b r.bytes at_).2) := by
 have hMX := MXv
 unfold f_V b_F
 rw [f_I (b_v b r.bytes at_) (fun k => if b.length ≤ at_ + k then (zV, (at_ : Int), (1 : Int)) else (zV, ((at_ + k : Nat) : Int), 2))]
 ·rw [ia_ (x := (at_ : Int)) (by omega) (by omega)]
  cases (List.range r.bytes.length).find? (b_v b r.bytes at_) with
  | none => simp only [bd_some, el_inl]; congr 3
  | some k =>
   simp only [bd_some, el_inr]
   split <;> rfl
 ·intro k hk _
  rw [ia_ (x := (at_ : Int)) (by omega) (by omega), show (at_ : Int) + k = ((at_ + k : Nat) : Int) by omega, ix_ hk]
  by_cases h : at_ + k < b.length
  ·rw [dF_ (by omega), ix_ h, show b_v b r.bytes at_ k = (byteI b[at_ + k] != byteI r.bytes[k]) by unfold b_v; rw [gG_ h, a_W hk]]
   rw [iN_ (show ¬ b.length ≤ at_ + k by omega)]
   simp only [bd_some, bF_, fF_]
   exact c_d _ _
  ·rw [dT_ (by omega), show b_v b r.bytes at_ k = true by unfold b_v; rw [gN_ (by omega)]]
   rw [iP_ (show b.length ≤ at_ + k by omega)]
   rfl
theorem q_J (hb : b.length ≤ MX) (ha : at_ ≤ b.length) (hr : r.bytes.length ≤ MX) : g_i ⟨d, b⟩ r at_ = some (if (b_F b r.bytes at_).2 = 0 then (((b_F b r.bytes at_).1 : Int), none) else ((at_ : Int), some (((b_F b r.bytes at_).1 : Int), (b_F b r.bytes at_).2))) := by
 have hMX := MXv
 unfold g_i b_F b_p
 simp only
 rw [f_I (b_v b r.bytes at_) (fun k => if b.length ≤ at_ + k then ((at_ : Int), some ((at_ : Int), (1 : Int))) else ((at_ : Int), some (((at_ + k : Nat) : Int), 2)))]
 ·rw [ia_ (x := (at_ : Int)) (by omega) (by omega)]
  cases (List.range r.bytes.length).find? (b_v b r.bytes at_) with
  | none => rfl
  | some k =>
   simp only [bd_some, el_inr]
   by_cases h : b.length ≤ at_ + k
   ·rw [iP_ h, iP_ h]; rfl
   ·rw [iN_ h, iN_ h]; rfl
 ·intro k hk _
  rw [ia_ (x := (at_ : Int)) (by omega) (by omega), show (at_ : Int) + k = ((at_ + k : Nat) : Int) by omega, ix_ hk]
  by_cases h : at_ + k < b.length
  ·rw [bd_some, dF_ (by omega), ix_ h, show b_v b r.bytes at_ k = (byteI b[at_ + k] != byteI r.bytes[k]) by unfold b_v; rw [gG_ h, a_W hk]]
   rw [iN_ (show ¬ b.length ≤ at_ + k by omega)]
   simp only [bd_some, bF_, fF_]
   exact c_d _ _
  ·rw [bd_some, dT_ (by omega), show b_v b r.bytes at_ k = true by unfold b_v; rw [gN_ (by omega)]]
   rw [iP_ (show b.length ≤ at_ + k by omega)]
   rfl
theorem q_K (ha : at_ ≤ b.length) (bs : List UInt8) : at_ ≤ (b_F b bs at_).1 ∧ (b_F b bs at_).1 ≤ b.length := by
 unfold b_F
 cases hf : (List.range bs.length).find? (b_v b bs at_) with
 | none =>
  simp only
  refine ⟨by omega, ?_⟩
  cases hl : bs.length with
  | zero => omega
  | succ m =>
   have := List.find?_eq_none.1 hf m (List.mem_range.2 (by omega))
   unfold b_v at this
   by_cases h : at_ + m < b.length
   ·omega
   ·rw [gN_ (by omega)] at this; simp at this
 | some k =>
  simp only
  split
  ·exact ⟨Nat.le_refl _, ha⟩
  ·exact ⟨by omega, by omega⟩
def a_X (b : List UInt8) (at_ : Nat) (n : Int) : Val × Nat × Int := if (b.length : Int) - at_ < n then (zV, at_, 1) else (⟨0, b_j b at_ (at_ + n.toNat), []⟩, at_ + n.toNat, 0)
theorem m_C {n : Int} (hb : b.length ≤ MX) (ha : at_ ≤ b.length) (h0 : 0 ≤ n) (hn : n < 4294967296) : e_M b at_ n = some ((a_X b at_ n).1, ((a_X b at_ n).2.1 : Int), (a_X b at_ n).2.2) := by
 have hMX := MXv
 unfold e_M a_X
 rw [a_h (x := (b.length : Int)) (by omega) (by omega), ia_ (x := (at_ : Int)) (by omega) (by omega)]
 by_cases h : (b.length : Int) - at_ < n
 ·rw [dT_ h, iP_ rfl, iP_ h]
 ·rw [dF_ h, iN_ (by simp), iN_ h, show (at_ : Int) + n = ((at_ + n.toNat : Nat) : Int) by omega, f_D (by omega) (by omega), bd_some, b_m (by rw [e_A (by omega)]; simp [a_e]; omega)]
  simp
theorem m_D {n : Int} (hb : b.length ≤ MX) (ha : at_ ≤ b.length) (h0 : 0 ≤ n) (hn : n < 4294967296) : e_S ⟨d, b⟩ at_ n = some (if (a_X b at_ n).2.2 = 0 then ((a_X b at_ n).1, ((a_X b at_ n).2.1 : Int), none) else (zV, (at_ : Int), some (((a_X b at_ n).2.1 : Int), (a_X b at_ n).2.2))) := by
 have hMX := MXv
 unfold e_S a_X
 rw [h_J hb ha h0 hn]
 by_cases h : (b.length : Int) - at_ < n
 ·rw [iP_ h, iP_ h]; rfl
 ·rw [iN_ h, iN_ h]
  simp only [bd2_some]
  rw [b_m (by rw [e_A (by omega)]; simp [a_e]; omega), ia_ (x := (at_ : Int)) (by omega) (by omega), show (at_ : Int) + n = ((at_ + n.toNat : Nat) : Int) by omega]
  rfl
end
def b_k (ts : List Int) (n : Int) : Option Nat := (List.range ts.length).find? (fun k => ts.getD k 0 == n)
def c_j (r : e_) (num : Int) (i : Nat) : Int :=
 if r.kind == 5 then r.kids.getD 1 0
 else if r.kind == 6 then (if i < r.kids.length then r.kids.getD i 0 else -1)
 else if r.kind == 7 then (match b_k r.tags num with | some k => r.kids.getD (k + 1) 0 | none => -1)
 else if r.kind == 8 then r.kids.getD 0 0
 else if r.kind == 9 then r.kids.getD 0 0
 else -1
structure k_d (r : e_) : Prop where
 arr : r.kind = 5 → r.kids.length = 2
 cho : r.kind = 7 → r.kids.length = r.tags.length + 1
 opt : r.kind = 8 → r.kids.length = 1
 chk : r.kind = 9 → r.kids.length = 1
theorem q_L {r : e_} {num : Int} (h : r.kids.length = r.tags.length + 1) : w_ (σ := Unit) (ρ := Int) (fun k440 => (fun (_ : Unit) => bd (idx r.tags ((k440 : Nat) : Int)) fun x479 => if (x479 == num) = true then bd (idx r.kids ((k440 + 1 : Nat) : Int)) fun x508 => some (.ret x508) else some (.next ()))) r.tags.length 0 () = some (match b_k r.tags num with | some k => .inr (r.kids.getD (k + 1) 0) | none => .inl ()) := by
 unfold b_k
 rw [f_I (fun k => r.tags.getD k 0 == num) (fun k => r.kids.getD (k + 1) 0)]
 ·cases (List.range r.tags.length).find? (fun k => r.tags.getD k 0 == num) <;> rfl
 ·intro k hk _
  rw [ix_ hk, bd_some, a_W hk, ix_ (show k + 1 < r.kids.length by omega), bd_some, a_W (show k + 1 < r.kids.length by omega)]
  by_cases h : r.tags[k] = num
  ·rw [show (r.tags[k] == num) = true by simpa using h]; rfl
  ·rw [show (r.tags[k] == num) = false by simpa using h]; rfl
theorem m_E {r : e_} (h : k_d r) (num : Int) (i : Nat) : d_E r num i = some (c_j r num i) := by
 unfold d_E c_j
 by_cases h5 : r.kind = 5
 ·rw [h5]; simp only [bQ_, fT_]
  rw [n_1 (by have := h.arr h5; omega), a_W (by have := h.arr h5; omega)]; rfl
 ·rw [show (r.kind == 5) = false by simpa using h5]
  simp only [bF_, fF_]
  by_cases h6 : r.kind = 6
  ·rw [h6]; simp only [bQ_, fT_]
   by_cases hi : i < r.kids.length
   ·rw [dT_ (by omega), ix_ hi, a_W hi, iP_ rfl, iP_ hi]; rfl
   ·rw [dF_ (by omega), iN_ (by simp), iN_ hi]; rfl
  ·rw [show (r.kind == 6) = false by simpa using h6]
   simp only [bF_, fF_]
   by_cases h7 : r.kind = 7
   ·rw [h7]; simp only [bQ_, fT_]
    rw [q_L (h.cho h7)]
    cases b_k r.tags num <;> rfl
   ·rw [show (r.kind == 7) = false by simpa using h7]
    simp only [bF_, fF_]
    by_cases h8 : r.kind = 8
    ·rw [h8]; simp only [bQ_, fT_, bd_some]
     rw [d_h (by have := h.opt h8; omega), a_W (by have := h.opt h8; omega)]; rfl
    ·rw [show (r.kind == 8) = false by simpa using h8]
     simp only [bF_, fF_]
     by_cases h9 : r.kind = 9
     ·rw [h9]; simp only [bQ_, fT_, bd_some]
      rw [d_h (by have := h.chk h9; omega), a_W (by have := h.chk h9; omega)]; rfl
     ·rw [show (r.kind == 9) = false by simpa using h9]; rfl
end Go.Vw
set_option linter.unusedVariables false
namespace Go.Vw
open Go.RowKit Dat
abbrev RR := Val × Nat × Int
def Z_ (rs : List e_) (k : Int) : e_ := rs.getD k.toNat default
def a_v (rs : List e_) (b : List UInt8) (r : e_) (at_ : Nat) : Sum Int (Int × List Int × Nat) :=
 if r.kind == 5 then (match a_r b (Z_ rs (I_ r)) at_ with
  | none => .inl 1
  | some n => if 40 < n then .inl 6 else .inr (0, List.replicate n.toNat (r.kids.getD 1 0), at_ + (Z_ rs (I_ r)).size.toNat))
 else if r.kind == 6 then .inr (0, r.kids, at_)
 else if r.kind == 7 then (match a_r b (Z_ rs (I_ r)) at_ with
  | none => .inl 1
  | some n => match b_k r.tags n with
   | none => .inl 3
   | some k => .inr (n, [r.kids.getD (k + 1) 0], at_ + (Z_ rs (I_ r)).size.toNat))
 else if r.kind == 8 then (match b[at_]? with
  | none => .inl 1
  | some c => if 1 < byteI c then .inl 4 else .inr (0, List.replicate c.toNat (r.kids.getD 0 0), at_ + 1))
 else .inr (0, [r.kids.getD 0 0], at_)
def a_4 (rd : Int → Nat → RR) : List Int → Nat → List Val × Nat × Int
 | [], p => ([], p, 0)
 | k :: ks, p => if (rd k p).2.2 = 0 then (if (a_4 rd ks (rd k p).2.1).2.2 = 0 then ((rd k p).1 :: (a_4 rd ks (rd k p).2.1).1, (a_4 rd ks (rd k p).2.1).2.1, 0) else ([], (a_4 rd ks (rd k p).2.1).2.1, (a_4 rd ks (rd k p).2.1).2.2)) else ([], (rd k p).2.1, (rd k p).2.2)
def b_l (b : List UInt8) (r : e_) (num : Int) (at_ : Nat) (x : List Val × Nat × Int) : RR :=
 if x.2.2 = 0 then (if r.kind == 9 then (match b[x.2.1]? with
  | none => (zV, x.2.1, 1)
  | some c => if byteI c = b_X (b_j b at_ x.2.1) then (⟨0, [], x.1⟩, x.2.1 + 1, 0) else (zV, x.2.1, 5)) else (⟨num, [], x.1⟩, x.2.1, 0)) else (zV, x.2.1, x.2.2)
def rdB (rs : List e_) (b : List UInt8) (r : e_) (at_ : Nat) (rd : Int → Nat → RR) : RR :=
 if r.kind == 1 then (match a_r b r at_ with | none => (zV, at_, 1) | some n => (⟨n, [], []⟩, at_ + r.size.toNat, 0))
 else if r.kind == 2 then (zV, (b_F b r.bytes at_).1, (b_F b r.bytes at_).2)
 else if r.kind == 3 then a_X b at_ r.size
 else if r.kind == 4 then (match a_r b (Z_ rs (I_ r)) at_ with | none => (zV, at_, 1) | some n => a_X b (at_ + (Z_ rs (I_ r)).size.toNat) n)
 else if r.kind == 10 then (match d_e b at_ (r.bytes.getD 0 0) with | none => (zV, at_, 1) | some (c, q) => (⟨0, c, []⟩, q, 0))
 else match a_v rs b r at_ with
  | .inl c => (zV, at_, c)
  | .inr (num, ks, st) => b_l b r num at_ (a_4 rd ks st)
def rdW (rs : List e_) (b : List UInt8) (rule : Nat) (at_ : Nat) : RR :=
 rdB rs b (rs.getD rule default) at_ (fun k p => if _h : k.toNat < rule then rdW rs b k.toNat p else (zV, p, 0))
termination_by rule
structure ROk (rs : List e_) (i : Nat) (r : e_) : Prop where
 kids : ∀ k ∈ r.kids, 0 ≤ k ∧ k < (i : Int)
 kind : a_q rs r = true
 name : a_U r.name = true
theorem h_L {d : g_} (h : a_m d = true) : 1 ≤ d.rules.length ∧ d.rules.length ≤ 24 := by
 unfold a_m at h
 simp only [aE_, dE_] at h
 omega
theorem h_M {d : g_} (h : a_m d = true) {i : Nat} (hi : i < d.rules.length) : ROk d.rules i d.rules[i] := by
 unfold a_m at h
 rw [aE_] at h
 have h2 := h.2
 rw [Bool.not_eq_true', List.any_eq_false] at h2
 have h3 := h2 i (List.mem_range.2 hi)
 rw [Bool.not_eq_true', Bool.not_eq_false] at h3
 unfold c_K at h3
 rw [gG_ hi] at h3
 simp only [aE_, Bool.not_eq_true', List.any_eq_false] at h3
 obtain ⟨⟨h4, _⟩, _, h6, h7⟩ := h3
 refine ⟨fun k hk => ?_, h7, h4⟩
 have := h6 k hk
 unfold c_J at this
 simp only [Bool.or_eq_true, dE_] at this
 omega
section
variable {rs : List e_} {r : e_}
theorem d_B {k : Int} (h : 0 < lim rs k) : idx rs k = some (Z_ rs k) ∧ f_E (Z_ rs k) := by
 unfold lim at h
 cases hr : idx rs k with
 | none => rw [hr] at h; simp at h
 | some q =>
  rw [hr] at h
  simp only at h
  split at h
  ·rename_i hq
   obtain ⟨h0, h1, _⟩ := b_A hr
   have : Z_ rs k = q := by unfold Z_; rw [gD_, h1]; rfl
   rw [this]
   exact ⟨rfl, hq⟩
  ·omega
theorem k_e (h : a_q rs r = true) (hk : r.kind = 1) : f_E r := by
 unfold a_q at h
 rw [hk] at h
 simp only [bQ_, fT_, aE_, dE_] at h
 exact ⟨hk, h.2.1.1, h.2.1.2⟩
theorem k_f (h : a_q rs r = true) (hk : r.kind = 3) : 1 ≤ r.size ∧ r.size ≤ 64 := by
 unfold a_q at h
 rw [hk] at h
 simp [] at h
 omega
theorem k_g (h : a_q rs r = true) (hk : r.kind = 4) : 0 < lim rs (I_ r) ∧ r.kids.length = 1 := by
 unfold a_q at h
 rw [hk] at h
 simp only [show ((4 : Int) == 1) = false from rfl, show ((4 : Int) == 2) = false from rfl, show ((4 : Int) == 3) = false from rfl, bF_, fF_, bQ_, fT_, aE_, dE_] at h
 have := c_f h.1 (by omega)
 exact ⟨h.2, by omega⟩
theorem f_F (h : a_q rs r = true) (hk : r.kind = 5) : 0 < lim rs (I_ r) ∧ r.kids.length = 2 := by
 unfold a_q at h
 rw [hk] at h
 simp only [show ((5 : Int) == 1) = false from rfl, show ((5 : Int) == 2) = false from rfl, show ((5 : Int) == 3) = false from rfl, show ((5 : Int) == 4) = false from rfl, bF_, fF_, bQ_, fT_, aE_, dE_] at h
 have := c_f h.1 (by omega)
 exact ⟨h.2, by omega⟩
theorem k_h (h : a_q rs r = true) (hk : r.kind = 6) : r.kids.length = r.names.length ∧ 1 ≤ r.kids.length ∧ r.kids.length ≤ 8 ∧ ∀ s ∈ r.names, a_U s = true := by
 unfold a_q at h
 rw [hk] at h
 simp only [show ((6 : Int) == 1) = false from rfl, show ((6 : Int) == 2) = false from rfl, show ((6 : Int) == 3) = false from rfl, show ((6 : Int) == 4) = false from rfl, show ((6 : Int) == 5) = false from rfl, bF_, fF_, bQ_, fT_, aE_, b_C, dE_] at h
 have h1 := c_f h.1 (by omega)
 refine ⟨by omega, by omega, by omega, fun s hs => ?_⟩
 obtain ⟨k, hk', rfl⟩ := List.getElem_of_mem hs
 have := h.2.1
 rw [Bool.not_eq_true', List.any_eq_false] at this
 have := this k (List.mem_range.2 hk')
 unfold b_U at this
 rw [gG_ hk'] at this
 simp only [Bool.or_eq_true, Bool.not_eq_true', not_or] at this
 simpa using this.1
theorem h_N (h : a_q rs r = true) (hk : r.kind = 7) : 0 < lim rs (I_ r) ∧ r.kids.length = r.tags.length + 1 ∧ 1 ≤ r.tags.length ∧ r.tags.length ≤ 8 := by
 unfold a_q at h
 rw [hk] at h
 simp only [show ((7 : Int) == 1) = false from rfl, show ((7 : Int) == 2) = false from rfl, show ((7 : Int) == 3) = false from rfl, show ((7 : Int) == 4) = false from rfl, show ((7 : Int) == 5) = false from rfl, show ((7 : Int) == 6) = false from rfl, bF_, fF_, bQ_, fT_, aE_, b_C, dE_] at h
 have h1 := c_f h.1 (by omega)
 refine ⟨?_, by omega, by omega, by omega⟩
 rcases l_C rs (I_ r) with hl | hl
 ·exfalso
  have := h.2.2
  rw [Bool.not_eq_true', List.any_eq_false] at this
  have h0 : 0 < r.tags.length := by omega
  have := this 0 (List.mem_range.2 h0)
  rw [h_u h0, hl] at this
  simp only [Bool.or_eq_true, Bool.not_eq_true', Bool.and_eq_false_iff, decide_eq_false_iff_not] at this
  omega
 ·exact hl
theorem d_C (h : a_q rs r = true) (hk : r.kind = 8 ∨ r.kind = 9) : r.kids.length = 1 := by
 unfold a_q at h
 rcases hk with hk | hk
 ·rw [hk] at h
  simp only [show ((8 : Int) == 1) = false from rfl, show ((8 : Int) == 2) = false from rfl, show ((8 : Int) == 3) = false from rfl, show ((8 : Int) == 4) = false from rfl, show ((8 : Int) == 5) = false from rfl, show ((8 : Int) == 6) = false from rfl, show ((8 : Int) == 7) = false from rfl, bF_, fF_, bQ_, fT_] at h
  have := c_f h (by omega)
  omega
 ·rw [hk] at h
  simp only [show ((9 : Int) == 1) = false from rfl, show ((9 : Int) == 2) = false from rfl, show ((9 : Int) == 3) = false from rfl, show ((9 : Int) == 4) = false from rfl, show ((9 : Int) == 5) = false from rfl, show ((9 : Int) == 6) = false from rfl, show ((9 : Int) == 7) = false from rfl, show ((9 : Int) == 8) = false from rfl, bF_, fF_, bQ_, fT_] at h
  have := c_f h (by omega)
  omega
theorem m_F (h : a_q rs r = true) (hk : r.kind = 10) : r.bytes.length = 1 := by
 unfold a_q at h
 rw [hk] at h
 simp [] at h
 omega
theorem h_O (h : a_q rs r = true) : 1 ≤ r.kind ∧ r.kind ≤ 10 := by
 unfold a_q at h
 by_cases h1 : r.kind = 1
 ·omega
 by_cases h2 : r.kind = 2
 ·omega
 by_cases h3 : r.kind = 3
 ·omega
 by_cases h4 : r.kind = 4
 ·omega
 by_cases h5 : r.kind = 5
 ·omega
 by_cases h6 : r.kind = 6
 ·omega
 by_cases h7 : r.kind = 7
 ·omega
 by_cases h8 : r.kind = 8
 ·omega
 by_cases h9 : r.kind = 9
 ·omega
 by_cases h10 : r.kind = 10
 ·omega
 simp [h1, h2, h3, h4, h5, h6, h7, h8, h9, h10] at h
theorem m_G (h : a_q rs r = true) : k_d r := ⟨fun hk => (f_F h hk).2, fun hk => (h_N h hk).2.1, fun hk => d_C h (.inl hk), fun hk => d_C h (.inr hk)⟩
end
theorem c_k {l : List Int} {k : Nat} (h : k < l.length) : l.getD k 0 ∈ l := by rw [a_W h]; exact gE_ h
theorem k_i {ts : List Int} {n : Int} {k : Nat} (h : b_k ts n = some k) : k < ts.length := by
 unfold b_k at h; exact List.mem_range.1 (List.mem_of_find?_eq_some h)
theorem m_H {rs : List e_} {b : List UInt8} {r : e_} {at_ : Nat} (h : a_q rs r = true) (hk : 5 ≤ r.kind ∧ r.kind ≤ 9) (ha : at_ ≤ b.length) {num : Int} {ks : List Int} {st : Nat} (hh : a_v rs b r at_ = .inr (num, ks, st)) :
  (∀ k ∈ ks, k ∈ r.kids) ∧ at_ ≤ st ∧ st ≤ b.length ∧ ks.length ≤ 40 ∧ (st = at_ → r.kind = 6 ∨ r.kind = 9) := by
 unfold a_v at hh
 by_cases h5 : r.kind = 5
 ·rw [h5] at hh
  simp only [bQ_, fT_] at hh
  have hl := f_F h h5
  cases hi : a_r b (Z_ rs (I_ r)) at_ with
  | none => rw [hi] at hh; cases hh
  | some n =>
   rw [hi] at hh
   have hr := (d_B hl.1).2
   have hb := c_M hr hi
   obtain ⟨_, hs, _⟩ := hr
   simp only at hh
   split at hh
   ·cases hh
   ·cases hh
    refine ⟨fun k hk => ?_, by omega, by omega, by simp; omega, by omega⟩
    rw [List.eq_of_mem_replicate hk]
    exact c_k (by omega)
 rw [show (r.kind == 5) = false by simpa using h5] at hh
 by_cases h6 : r.kind = 6
 ·rw [h6] at hh
  simp only [bF_, fF_, bQ_, fT_] at hh
  cases hh
  exact ⟨fun k hk => hk, Nat.le_refl _, ha, by have := k_h h h6; omega, fun _ => .inl h6⟩
 rw [show (r.kind == 6) = false by simpa using h6] at hh
 by_cases h7 : r.kind = 7
 ·rw [h7] at hh
  simp only [bF_, fF_, bQ_, fT_] at hh
  have hl := h_N h h7
  cases hi : a_r b (Z_ rs (I_ r)) at_ with
  | none => rw [hi] at hh; cases hh
  | some n =>
   rw [hi] at hh
   have hr := (d_B hl.1).2
   have hb := c_M hr hi
   obtain ⟨_, hs, _⟩ := hr
   simp only at hh
   cases ht : b_k r.tags n with
   | none => rw [ht] at hh; cases hh
   | some k =>
    rw [ht] at hh
    cases hh
    have := k_i ht
    refine ⟨fun k' hk => ?_, by omega, by omega, by simp, by omega⟩
    rw [List.mem_singleton.1 hk]
    exact c_k (by omega)
 rw [show (r.kind == 7) = false by simpa using h7] at hh
 by_cases h8 : r.kind = 8
 ·rw [h8] at hh
  simp only [bF_, fF_, bQ_, fT_] at hh
  have hl := d_C h (.inl h8)
  cases hi : b[at_]? with
  | none => rw [hi] at hh; cases hh
  | some c =>
   rw [hi] at hh
   simp only at hh
   have hlt := (gS_.1 hi).1
   split at hh
   ·cases hh
   ·cases hh
    refine ⟨fun k hk => ?_, by omega, by omega, ?_, by omega⟩
    ·rw [List.eq_of_mem_replicate hk]
     exact c_k (by omega)
    ·unfold byteI at *; simp; omega
 rw [show (r.kind == 8) = false by simpa using h8] at hh
 simp only [bF_, fF_] at hh
 cases hh
 have hl := d_C h (.inr (show r.kind = 9 by omega))
 refine ⟨fun k hk => ?_, Nat.le_refl _, ha, by simp, fun _ => .inr (by omega)⟩
 rw [List.mem_singleton.1 hk]
 exact c_k (by omega)
theorem m_I {rd rd' : Int → Nat → RR} : ∀ (ks : List Int) (p : Nat), (∀ k ∈ ks, ∀ p, rd k p = rd' k p) → a_4 rd ks p = a_4 rd' ks p
 | [], _, _ => rfl
 | k :: ks, p, h => by
  unfold a_4
  rw [h k mS_ p, m_I ks _ (fun k hk => h k (mT_ _ hk))]
theorem h_P {rd : Int → Nat → RR} {L : Nat} : ∀ (ks : List Int) (p : Nat), p ≤ L → (∀ k ∈ ks, ∀ p, p ≤ L → p ≤ (rd k p).2.1 ∧ (rd k p).2.1 ≤ L) → p ≤ (a_4 rd ks p).2.1 ∧ (a_4 rd ks p).2.1 ≤ L
 | [], p, hp, _ => ⟨Nat.le_refl _, hp⟩
 | k :: ks, p, hp, h => by
  have h1 := h k mS_ p hp
  have h2 := h_P (rd := rd) ks _ h1.2 (fun k hk => h k (mT_ _ hk))
  unfold a_4
  split
  ·split <;> exact ⟨by simp only; omega, by simp only; omega⟩
  ·exact h1
section
variable {d : g_} {b : List UInt8}
theorem k_j (hv : a_m d = true) {i : Nat} (hi : i < d.rules.length) {at_ : Nat} (ha : at_ ≤ b.length) : rdW d.rules b i at_ = rdB d.rules b d.rules[i] at_ (fun k p => rdW d.rules b k.toNat p) := by
 have hr := h_M hv hi
 rw [rdW]
 have e : d.rules.getD i default = d.rules[i] := by simp [gD_, hi]
 rw [e]
 have hal := h_O hr.kind
 unfold rdB
 by_cases hk : 5 ≤ d.rules[i].kind ∧ d.rules[i].kind ≤ 9
 ·cases hh : a_v d.rules b d.rules[i] at_ with
  | inl c => rfl
  | inr x =>
   obtain ⟨num, ks, st⟩ := x
   have hks := (m_H hr.kind hk ha hh).1
   simp only
   rw [m_I ks st (fun k hk p => by
    have := hr.kids k (hks k hk)
    rw [dif_pos (by omega)])]
 ·have : d.rules[i].kind = 1 ∨ d.rules[i].kind = 2 ∨ d.rules[i].kind = 3 ∨ d.rules[i].kind = 4 ∨ d.rules[i].kind = 10 := by omega
  rcases this with h | h | h | h | h <;> rw [h] <;> rfl
theorem h_Q (hv : a_m d = true) : ∀ (i : Nat), i < d.rules.length → ∀ at_, at_ ≤ b.length → at_ ≤ (rdW d.rules b i at_).2.1 ∧ (rdW d.rules b i at_).2.1 ≤ b.length := by
 intro i
 induction i using Nat.strongRecOn with
 | _ i ih =>
  intro hi at_ ha
  rw [k_j hv hi ha]
  have hr := h_M hv hi
  have hal := h_O hr.kind
  generalize hrr : d.rules[i] = r at *
  unfold rdB
  by_cases h1 : r.kind = 1
  ·rw [h1]; simp only [bQ_, fT_]
   cases hd : a_r b r at_ with
   | none => exact ⟨Nat.le_refl _, ha⟩
   | some n => have := c_M (k_e hr.kind h1) hd; exact ⟨by simp only; omega, by simp only; omega⟩
  rw [show (r.kind == 1) = false by simpa using h1]
  by_cases h2 : r.kind = 2
  ·rw [h2]; exact q_K ha _
  rw [show (r.kind == 2) = false by simpa using h2]
  have hby : ∀ p n, p ≤ b.length → at_ ≤ p → 0 ≤ n → at_ ≤ (a_X b p n).2.1 ∧ (a_X b p n).2.1 ≤ b.length := by
   intro p n hp hap hn
   unfold a_X
   split
   ·exact ⟨hap, hp⟩
   ·exact ⟨by simp only; omega, by simp only; omega⟩
  by_cases h3 : r.kind = 3
  ·rw [h3]; exact hby at_ r.size ha (Nat.le_refl _) (by have := k_f hr.kind h3; omega)
  rw [show (r.kind == 3) = false by simpa using h3]
  by_cases h4 : r.kind = 4
  ·rw [h4]; simp only [bF_, fF_, bQ_, fT_]
   cases hd : a_r b (Z_ d.rules (I_ r)) at_ with
   | none => exact ⟨Nat.le_refl _, ha⟩
   | some n =>
    have := c_M (d_B (k_g hr.kind h4).1).2 hd
    exact hby _ n (by omega) (by omega) this.1
  rw [show (r.kind == 4) = false by simpa using h4]
  by_cases h10 : r.kind = 10
  ·rw [h10]; simp only [bF_, fF_, bQ_, fT_]
   cases hd : d_e b at_ (r.bytes.getD 0 0) with
   | none => exact ⟨Nat.le_refl _, ha⟩
   | some x =>
    have := j_S _ _ _ _ _ hd
    exact ⟨by simp only; omega, by simp only; omega⟩
  rw [show (r.kind == 10) = false by simpa using h10]
  simp only [bF_, fF_]
  cases hh : a_v d.rules b r at_ with
  | inl c => exact ⟨Nat.le_refl _, ha⟩
  | inr x =>
   obtain ⟨num, ks, st⟩ := x
   have hks := m_H hr.kind (by omega) ha hh
   have hit := h_P (rd := fun k p => rdW d.rules b k.toNat p) (L := b.length) ks st hks.2.2.1 (fun k hk p hp => by
    have := hr.kids k (hks.1 k hk)
    exact ih k.toNat (by omega) (by omega) p hp)
   simp only
   generalize a_4 (fun k p => rdW d.rules b k.toNat p) ks st = x at hit
   unfold b_l
   split
   ·split
    ·cases hb : b[x.2.1]? with
     | none => exact ⟨by simp only; omega, hit.2⟩
     | some c =>
      have := (gS_.1 hb).1
      simp only
      split
      ·exact ⟨by simp only; omega, by simp only; omega⟩
      ·exact ⟨by simp only; omega, hit.2⟩
    ·exact ⟨by simp only; omega, hit.2⟩
   ·exact ⟨by simp only; omega, hit.2⟩
end
end Go.Vw
