import Derived.Test.YtfdcdeahjejlmaaGreatDoorVqPure
import Derived.Test.YtfdcdeahjejlmaaGreatDoorVqTModels
set_option linter.unusedVariables false
namespace Go.Vw
open Go.RowKit Dat
def MX : Nat := 1048576
structure SmR (r : e_) : Prop where
 name : r.name.b.length ≤ MX
 bytes : r.bytes.length ≤ MX
 names : r.names.length ≤ MX
 tags : r.tags.length ≤ MX
 kids : r.kids.length ≤ MX
 each : ∀ s ∈ r.names, s.b.length ≤ MX
structure SmD (d : g_) : Prop where
 rules : d.rules.length ≤ MX
 each : ∀ r ∈ d.rules, SmR r
theorem p_E {α : Type} {c : Prop} [Decidable c] (x y : α) : (if c then some x else some y) = some (if c then x else y) := by split <;> rfl
theorem c_d {ρ : Type} {c : Bool} (x y : Out Unit ρ) : (if c = true then some x else some y) = some (if c = true then x else y) := by split <;> rfl
def lowC (c : UInt8) : Bool := decide (byteI (97 : UInt8) ≤ byteI c) && decide (byteI c ≤ byteI (122 : UInt8))
def digC (c : UInt8) : Bool := decide (byteI (48 : UInt8) ≤ byteI c) && decide (byteI c ≤ byteI (57 : UInt8))
theorem l_v (c : UInt8) : lowC c = (decide (97 ≤ (c.toNat : Int)) && decide ((c.toNat : Int) ≤ 122)) := rfl
theorem l_w (c : UInt8) : digC c = (decide (48 ≤ (c.toNat : Int)) && decide ((c.toNat : Int) ≤ 57)) := rfl
theorem l_x (k : Nat) : ((k : Int) == 0) = (k == 0) := by
 rw [Bool.eq_iff_iff]; simp
def b_7 (s : Str) (k : Nat) : Bool := match s.b[k]? with
 | some c => !lowC c && (!digC c || k == 0)
 | none => false
def a_U (s : Str) : Bool := !((List.range s.b.length).any (b_7 s)) && (decide (1 ≤ s.b.length) && decide (s.b.length ≤ 12))
theorem a_V (x lo hi : Int) : a_n x lo hi = some (decide (lo ≤ x) && decide (x ≤ hi)) := by
 unfold a_n
 generalize decide (lo ≤ x) = a
 generalize decide (x ≤ hi) = b
 cases a <;> rfl
theorem d_u (x lo hi : Int) : b_w x lo hi = some (decide (lo ≤ x) && decide (x ≤ hi)) := by
 unfold b_w
 generalize decide (lo ≤ x) = a
 generalize decide (x ≤ hi) = b
 cases a <;> rfl
theorem j_M (s : Str) : e_7 s = some (a_U s) := by
 unfold e_7
 rw [d_i (b_7 s) false]
 ·unfold a_U
  cases (List.range s.b.length).any (b_7 s)
  ·have e1 : decide ((1 : Int) ≤ s.b.length) = decide (1 ≤ s.b.length) := decide_eq_decide.2 (by omega)
   have e2 : decide ((s.b.length : Int) ≤ 12) = decide (s.b.length ≤ 12) := decide_eq_decide.2 (by omega)
   simp only [bF_, fF_, bd_some, el_inl, a_V, e1, e2, Bool.not_false, Bool.true_and]
  ·rfl
 ·intro k hk _
  simp only [ix_ hk, bd_some, b_7, gG_ hk, lowC, digC, l_x]
  generalize decide (byteI (97 : UInt8) ≤ byteI s.b[k]) = a
  generalize decide (byteI s.b[k] ≤ byteI (122 : UInt8)) = b
  generalize decide (byteI (48 : UInt8) ≤ byteI s.b[k]) = c
  generalize decide (byteI s.b[k] ≤ byteI (57 : UInt8)) = d
  generalize (k == 0) = e
  cases a <;> cases b <;> cases c <;> cases d <;> cases e <;> rfl
theorem j_N (n : Nat) (hn : 14 ≤ n) (s : Str) : d_F n s = some (a_U s) := by
 unfold d_F
 by_cases h1 : s.b.length < 1
 ·have : a_U s = false := by unfold a_U; simp [show ¬ 1 ≤ s.b.length by omega]
  rw [this]; simp [show ((s.b.length : Int) < 1) by omega]
 by_cases h2 : 12 < s.b.length
 ·have : a_U s = false := by unfold a_U; simp [show ¬ s.b.length ≤ 12 by omega]
  rw [this]; simp [show ¬ ((s.b.length : Int) < 1) by omega, show ((12 : Int) < s.b.length) by omega]
 have e1 : decide ((s.b.length : Int) < 1) = false := by simp; omega
 have e2 : decide ((12 : Int) < (s.b.length : Int)) = false := by simp; omega
 rw [e1, e2]
 simp only [bF_, fF_, bd_some]
 have hstep : ∀ k, k < s.b.length → b_7 s k = false → ∀ {ρ : Type} (x : Nat → ρ), x (k + (dec s k).2) = x (k + 1) := by
  intro k hk hb ρ x
  rw [n_4 hk]
  have hb' : b_7 s k = (!lowC s.b[k] && (!digC s.b[k] || k == 0)) := by unfold b_7; rw [gG_ hk]
  rw [hb'] at hb
  rw [l_v, l_w] at hb
  simp only [Bool.and_eq_false_iff, Bool.not_eq_false', Bool.or_eq_false_iff, aE_, dE_] at hb
  omega
 have hgood : ∀ k (hk : k < s.b.length), b_7 s k = (bd (α := Bool) (if (decide (97 ≤ ((dec s k).1))) = true then some (decide (((dec s k).1) ≤ 122)) else some false) (fun x168 => bd (α := Bool) (if (decide (48 ≤ ((dec s k).1))) = true then some (decide (((dec s k).1) ≤ 57)) else some false) (fun x182 => bd (α := Bool) (if (!x168) = true then if (!x182) = true then some true else some ((k : Int) == 0) else some false) some))).getD false ∧
   (bd (α := Bool) (if (decide (97 ≤ ((dec s k).1))) = true then some (decide (((dec s k).1) ≤ 122)) else some false) (fun x168 => bd (α := Bool) (if (decide (48 ≤ ((dec s k).1))) = true then some (decide (((dec s k).1) ≤ 57)) else some false) (fun x182 => bd (α := Bool) (if (!x168) = true then if (!x182) = true then some true else some ((k : Int) == 0) else some false) (fun x199 => if x199 = true then some (.ret false) else some (.next (k + (dec s k).2)))))) = some (if b_7 s k = true then (.ret false : Out Nat Bool) else .next (k + (dec s k).2)) := by
  intro k hk
  have hb' : b_7 s k = (!lowC s.b[k] && (!digC s.b[k] || k == 0)) := by unfold b_7; rw [gG_ hk]
  rw [hb']
  rw [l_v, l_w]
  rw [l_x]
  by_cases ha : s.b[k].toNat < 128
  ·rw [n_4 hk ha]
   simp only
   generalize (s.b[k].toNat : Int) = c
   generalize decide (97 ≤ c) = a
   generalize decide (c ≤ 122) = b
   generalize decide (48 ≤ c) = c'
   generalize decide (c ≤ 57) = d
   generalize (k == 0) = e
   cases a <;> cases b <;> cases c' <;> cases d <;> cases e <;> exact ⟨rfl, rfl⟩
  ·have hd := r_g hk (by omega)
   generalize (dec s k).1 = c at hd
   generalize (dec s k).2 = c2
   have g1 : 97 ≤ c := by omega
   have g2 : ¬ c ≤ 122 := by omega
   have g3 : 48 ≤ c := by omega
   have g4 : ¬ c ≤ 57 := by omega
   have k2 : ¬ (s.b[k].toNat : Int) ≤ 122 := by omega
   have k4 : ¬ (s.b[k].toNat : Int) ≤ 57 := by omega
   simp [g1, g2, g3, g4, k2, k4]
 have hit : E_ (σ := Nat) (ρ := Bool) (fun x120 => if (decide (x120 < s.b.length)) = true then bd (α := Bool) (if (decide (97 ≤ ((dec s x120).1))) = true then some (decide (((dec s x120).1) ≤ 122)) else some false) (fun x168 => bd (α := Bool) (if (decide (48 ≤ ((dec s x120).1))) = true then some (decide (((dec s x120).1) ≤ 57)) else some false) (fun x182 => bd (α := Bool) (if (!x168) = true then if (!x182) = true then some true else some ((x120 : Int) == 0) else some false) (fun x199 => if x199 = true then some (.ret false) else some (.next (x120 + (dec s x120).2))))) else some (.brk x120)) n 0 = some (if (List.range s.b.length).any (b_7 s) = true then .inr false else .inl s.b.length) := by
  cases hf : (List.range s.b.length).find? (b_7 s) with
  | none =>
   have hall : ∀ k, k < s.b.length → b_7 s k = false := fun k hk => by simpa using List.find?_eq_none.1 hf k (List.mem_range.2 hk)
   have hany : (List.range s.b.length).any (b_7 s) = false := by rw [List.any_eq_false]; exact fun x hx => by simpa using List.find?_eq_none.1 hf x hx
   rw [hany]
   refine e_E (fun k => k) (j0 := s.b.length) (by omega) (fun k hk => ?_) ?_
   ·simp only [hk, decide_true, fT_]
    rw [(hgood k hk).2, hall k hk]
    simp only [bF_, fF_]
    rw [hstep k hk (hall k hk) (fun x => some (Out.next x))]
   ·simp
  | some k =>
   have hany : (List.range s.b.length).any (b_7 s) = true := List.any_eq_true.2 ⟨k, List.mem_of_find?_eq_some hf, List.find?_some hf⟩
   rw [hany]
   obtain ⟨hp, as, bs, hl, has⟩ := List.find?_eq_some_iff_append.1 hf
   have hk : k < s.b.length := List.mem_range.1 (List.mem_of_find?_eq_some hf)
   have hbef : ∀ j, j < k → b_7 s j = false := by
    intro j hj
    have hlen : as.length < s.b.length := by have := congrArg List.length hl; simp at this; omega
    have hke : as.length = k := by
     have h2 : (List.range s.b.length)[as.length]? = some k := by rw [hl]; simp
     rw [List.getElem?_range hlen] at h2
     exact Option.some.inj h2
    have hj' : j < as.length := by omega
    have h2 : (List.range s.b.length)[j]? = some (as[j]) := by rw [hl, List.getElem?_append_left hj']; simp
    rw [List.getElem?_range (by omega)] at h2
    have h3 := has as[j] (gE_ hj')
    rw [← Option.some.inj h2] at h3
    simpa using h3
   refine r_f (fun k => k) (j0 := k) (by omega) (fun j hj => ?_) ?_
   ·have hj2 : j < s.b.length := by omega
    simp only [hj2, decide_true, fT_]
    rw [(hgood j hj2).2, hbef j hj]
    simp only [bF_, fF_]
    rw [hstep j hj2 (hbef j hj) (fun x => some (Out.next x))]
   ·simp only [hk, decide_true, fT_]
    rw [(hgood k hk).2, hp]
    rfl
 rw [hit]
 unfold a_U
 have g1 : decide (1 ≤ s.b.length) = true := dT_ (by omega)
 have g2 : decide (s.b.length ≤ 12) = true := dT_ (by omega)
 rw [g1, g2]
 cases (List.range s.b.length).any (b_7 s) <;> rfl
def plain (r : e_) (a b c d : Bool) (k : Int) : Bool := (a || r.size == 0) && ((b || (r.bytes.length : Int) == 0) && ((c || (r.names.length : Int) == 0) && ((d || (r.tags.length : Int) == 0) && (decide (k < 0) || (r.kids.length : Int) == k))))
theorem j_O (r : e_) (a b c d : Bool) (k : Int) : b_L r a b c d k = some (plain r a b c d k) := by
 unfold b_L plain
 generalize (r.size == 0) = p1
 generalize ((r.bytes.length : Int) == 0) = p2
 generalize ((r.names.length : Int) == 0) = p3
 generalize ((r.tags.length : Int) == 0) = p4
 generalize decide (k < 0) = p5
 generalize ((r.kids.length : Int) == k) = p6
 cases a <;> cases p1 <;> try rfl
 all_goals cases b <;> cases p2 <;> try rfl
 all_goals cases c <;> cases p3 <;> try rfl
 all_goals cases d <;> cases p4 <;> try rfl
 all_goals cases p5 <;> rfl
theorem p_F (r : e_) (a b c d : Bool) (k : Int) : b_K r a b c d k = some (plain r a b c d k && (!r.little || r.kind == 1)) := by
 unfold b_K plain
 generalize (r.size == 0) = p1
 generalize ((r.bytes.length : Int) == 0) = p2
 generalize ((r.names.length : Int) == 0) = p3
 generalize ((r.tags.length : Int) == 0) = p4
 generalize decide (k < 0) = p5
 generalize ((r.kids.length : Int) == k) = p6
 generalize (r.kind == 1) = p7
 generalize r.little = p8
 cases a <;> cases p1 <;> try rfl
 all_goals cases b <;> cases p2 <;> try rfl
 all_goals cases c <;> cases p3 <;> try rfl
 all_goals cases d <;> cases p4 <;> try rfl
 all_goals cases p5 <;> cases p6 <;> cases p8 <;> rfl
def lim (rs : List e_) (i : Int) : Int := match idx rs i with
 | some r => if r.kind = 1 ∧ 1 ≤ r.size ∧ r.size ≤ 4 then 256 ^ r.size.toNat - 1 else -1
 | none => -1
theorem l_y {α : Type} {l : List α} {i : Int} (h : ¬ (0 ≤ i ∧ i < l.length)) : idx l i = none := by
 unfold idx; split
 ·rw [gN_]; omega
 ·rfl
theorem h_t {s : Int} (h1 : 1 ≤ s) (h4 : s ≤ 4) : y_ (a_P .i64 1 (b_6 8 s)) 1 = 256 ^ s.toNat - 1 ∧ nn (b_6 8 s) = some () := by
 have : s = 1 ∨ s = 2 ∨ s = 3 ∨ s = 4 := by omega
 rcases this with rfl | rfl | rfl | rfl <;> exact ⟨by decide, by decide⟩
theorem l_z (d : g_) (i : Int) : e_c d i = some (lim d.rules i) := by
 unfold e_c d_G lim
 by_cases h : 0 ≤ i ∧ i < d.rules.length
 ·obtain ⟨h0, h1⟩ := h
  rw [dT_ h0, dT_ h1, e_C h0 (by omega)]
  generalize d.rules[i.toNat] = r
  simp only [fT_, bd_some, d_u]
  by_cases hk : r.kind = 1
  ·by_cases hs1 : 1 ≤ r.size
   ·by_cases hs4 : r.size ≤ 4
    ·simp [hk, hs1, hs4, (h_t hs1 hs4).1, (h_t hs1 hs4).2]
    ·simp [hk, hs1, hs4]
   ·simp [hk, hs1]
  ·simp [hk]
 ·rw [l_y h]
  by_cases h0 : 0 ≤ i
  ·have h1 : ¬ i < d.rules.length := fun h1 => h ⟨h0, h1⟩
   simp [h0, h1]
  ·simp [h0]
theorem l_A (d : g_) (i : Int) (hd : d.rules.length ≤ MX) : e_9 d i = some (lim d.rules i) := by
 unfold e_9 lim
 rw [a_V]
 have hMX : MX = 1048576 := rfl
 have e : y_ (d.rules.length : Int) 1 = (d.rules.length : Int) - 1 := a_h (by omega) (by omega)
 rw [e]
 by_cases h : 0 ≤ i ∧ i < d.rules.length
 ·obtain ⟨h0, h1⟩ := h
  rw [dT_ h0, dT_ (show i ≤ (d.rules.length : Int) - 1 by omega), e_C h0 (by omega)]
  generalize d.rules[i.toNat] = r
  simp only [bd_some, a_V, e_8]
  by_cases hk : r.kind = 1
  ·by_cases hs1 : 1 ≤ r.size
   ·by_cases hs4 : r.size ≤ 4
    ·simp [hk, hs1, hs4, (h_t hs1 hs4).1, (h_t hs1 hs4).2]
    ·simp [hk, hs1, hs4]
   ·simp [hk, hs1]
  ·simp [hk]
 ·rw [l_y h]
  by_cases h0 : 0 ≤ i
  ·have h1 : ¬ i ≤ (d.rules.length : Int) - 1 := fun h1 => h ⟨h0, by omega⟩
   simp [h0, h1]
  ·simp [h0]
def e_0 (l : List Str) (s : Str) : Bool := l.any (fun x => x.b == s.b)
theorem p_G (l : List Str) (s : Str) : e_P l s = some (e_0 l s) := by
 unfold e_P e_0
 rw [c_N (fun x => x.b == s.b) true (fun k hk => by simp only [ix_ hk, bd_some]; exact c_d _ _)]
 cases l.any (fun x => x.b == s.b) <;> rfl
theorem p_H (l : List Str) (s : Str) : f_P l s = some (e_0 l s) := by
 unfold f_P e_0
 rw [c_N (fun x => x.b == s.b) true (fun k hk => by simp only [ix_ hk, bd_some]; exact c_d _ _)]
 cases l.any (fun x => x.b == s.b) <;> rfl
def b_U (l : List Str) (k : Nat) : Bool := match l[k]? with
 | some s => !a_U s || e_0 (l.take k) s
 | none => false
def c_e (m : Int) (l : List Int) (k : Nat) : Bool := match l[k]? with
 | some t => !(decide (0 ≤ t) && decide (t ≤ m)) || (decide (0 < (k : Int)) && decide (t ≤ l.getD (k - 1) 0))
 | none => false
def b_C (n : Nat) : Bool := decide (1 ≤ (n : Int)) && decide ((n : Int) ≤ 8)
def I_ (r : e_) : Int := r.kids.getD 0 0
def a_q (rs : List e_) (r : e_) : Bool :=
 if r.kind == 1 then plain r true false false false 0 && ((decide (1 ≤ r.size) && decide (r.size ≤ 4)) && (!r.little || decide (1 < r.size)))
 else if r.kind == 2 then plain r false true false false 0 && (decide (1 ≤ (r.bytes.length : Int)) && decide ((r.bytes.length : Int) ≤ 16))
 else if r.kind == 3 then plain r true false false false 0 && (decide (1 ≤ r.size) && decide (r.size ≤ 64))
 else if r.kind == 4 then plain r false false false false 1 && decide (0 < lim rs (I_ r))
 else if r.kind == 5 then plain r false false false false 2 && decide (0 < lim rs (I_ r))
 else if r.kind == 6 then plain r false false true false r.names.length && (!((List.range r.names.length).any (b_U r.names)) && b_C r.names.length)
 else if r.kind == 7 then plain r false false false true ((r.tags.length : Int) + 1) && (b_C r.tags.length && !((List.range r.tags.length).any (c_e (lim rs (I_ r)) r.tags)))
 else if r.kind == 8 then plain r false false false false 1
 else if r.kind == 9 then plain r false false false false 1
 else if r.kind == 10 then plain r false true false false 0 && ((r.bytes.length : Int) == 1 && byteI (r.bytes.getD 0 0) != byteI (92 : UInt8))
 else false
theorem c_f {r : e_} {a b c d : Bool} {k : Int} (h : plain r a b c d k = true) (hk : 0 ≤ k) : (r.kids.length : Int) = k := by
 unfold plain at h
 simp only [aE_, Bool.or_eq_true, dE_, beq_iff_eq] at h
 omega
theorem l_B (r : e_) (a b c d : Bool) (k : Int) : plain r a b c d k = (plain r a b c d (-1) && (decide (k < 0) || (r.kids.length : Int) == k)) := by
 unfold plain; simp [Bool.and_assoc]
theorem j_P {α : Type} {l : List α} {k : Nat} (h : k ≤ l.length) : slc l 0 (k : Int) = some (l.take k) := by
 rw [e_6 (Int.le_refl 0) (by omega) (by omega)]; simp
theorem l_C (rs : List e_) (i : Int) : lim rs i = -1 ∨ 0 < lim rs i := by
 unfold lim
 cases idx rs i with
 | none => exact .inl rfl
 | some r =>
  simp only
  by_cases h : r.kind = 1 ∧ 1 ≤ r.size ∧ r.size ≤ 4
  ·rw [iP_ h]
   right
   obtain ⟨_, h1, h4⟩ := h
   have : r.size = 1 ∨ r.size = 2 ∨ r.size = 3 ∨ r.size = 4 := by omega
   rcases this with h | h | h | h <;> rw [h] <;> decide
  ·rw [iN_ h]; exact .inl rfl
theorem a_W {α : Type} {l : List α} {k : Nat} {x : α} (h : k < l.length) : l.getD k x = l[k] := by simp [gD_, h]
theorem p_I (n : Nat) (hn : 14 ≤ n) (l : List Str) : w_ (σ := Unit) (ρ := Bool) (fun k149 => (fun (_ : Unit) => bd (idx l ((k149 : Nat) : Int)) fun x205 => bd (α := Bool) (bd (d_F n x205) fun r251 => if (!r251) = true then some true else bd (slc l 0 ((k149 : Nat) : Int)) fun x261 => bd (e_P x261 x205) fun r271 => some r271) (fun x244 => if x244 = true then some (.ret false) else some (.next ())))) l.length 0 () = some (if (List.range l.length).any (b_U l) = true then .inr false else .inl ()) := by
 refine d_i (b_U l) false (fun k hk _ => ?_)
 simp only [ix_ hk, bd_some, j_N n hn, j_P (Nat.le_of_lt hk), p_G, b_U, gG_ hk]
 generalize a_U l[k] = a
 generalize e_0 (l.take k) l[k] = b
 cases a <;> cases b <;> rfl
theorem p_J (l : List Str) : f_Q l = some (!((List.range l.length).any (b_U l)) && b_C l.length) := by
 unfold f_Q
 rw [d_i (b_U l) false]
 ·rw [a_V]
  unfold b_C
  cases (List.range l.length).any (b_U l) <;> rfl
 ·intro k hk _
  simp only [ix_ hk, bd_some, j_M, j_P (Nat.le_of_lt hk), p_H, b_U, gG_ hk]
  generalize a_U l[k] = a
  generalize e_0 (l.take k) l[k] = b
  cases a <;> cases b <;> rfl
theorem p_K (n : Nat) (hn : 14 ≤ n) (r : e_) : g_a n r = some (plain r false false true false r.names.length && (!((List.range r.names.length).any (b_U r.names)) && b_C r.names.length)) := by
 unfold g_a
 rw [p_I n hn, j_O, d_u, l_B r _ _ _ _ r.names.length]
 have e1 : decide ((r.names.length : Int) < 0) = false := dF_ (by omega)
 rw [e1]
 unfold b_C
 generalize (List.range r.names.length).any (b_U r.names) = a
 generalize plain r false false true false (-1) = b
 by_cases h : (r.kids.length : Int) = r.names.length
 ·rw [h]
  have e2 : ((r.names.length : Int) == (r.names.length : Int)) = true := by simp
  have e3 : ((r.names.length : Int) != (r.names.length : Int)) = false := by simp
  rw [e2, e3]
  generalize (decide (1 ≤ (r.names.length : Int)) && decide ((r.names.length : Int) ≤ 8)) = c
  cases a <;> cases b <;> cases c <;> rfl
 ·have e2 : ((r.kids.length : Int) == (r.names.length : Int)) = false := by simpa using h
  have e3 : ((r.kids.length : Int) != (r.names.length : Int)) = true := by simpa using h
  rw [e2, e3]
  cases a <;> cases b <;> rfl
theorem h_u {m : Int} {l : List Int} {k : Nat} (hk : k < l.length) : c_e m l k = (!(decide (0 ≤ l[k]) && decide (l[k] ≤ m)) || (decide (0 < (k : Int)) && decide (l[k] ≤ l.getD (k - 1) 0))) := by
 unfold c_e; rw [gG_ hk]
theorem l_D {l : List Int} {k : Nat} (hk : k < l.length) (h0 : 0 < k) : idx l (y_ (k : Int) 1) = some (l.getD (k - 1) 0) ∨ ¬ l.length ≤ MX := by
 by_cases hM : l.length ≤ MX
 ·left
  have hMX : MX = 1048576 := rfl
  rw [a_h (by omega) (by omega), e_C (by omega) (by omega), a_W (by omega)]
  simp [show ((k : Int) - 1).toNat = k - 1 by omega]
 ·exact .inr hM
theorem p_L (m : Int) (l : List Int) (hl : l.length ≤ MX) : w_ (σ := Unit) (ρ := Bool) (fun k197 => (fun (_ : Unit) => bd (idx l ((k197 : Nat) : Int)) fun x255 => bd (α := Bool) (bd (b_w x255 0 m) fun r300 => if (!r300) = true then some true else if (decide (0 < ((k197 : Nat) : Int))) = true then bd (idx l (y_ ((k197 : Nat) : Int) 1)) fun x312 => some (decide (x255 ≤ x312)) else some false) (fun x293 => if x293 = true then some (.ret false) else some (.next ())))) l.length 0 () = some (if (List.range l.length).any (c_e m l) = true then .inr false else .inl ()) := by
 refine d_i (c_e m l) false (fun k hk _ => ?_)
 simp only [ix_ hk, bd_some, d_u, h_u hk]
 by_cases h0 : 0 < k
 ·have e := (l_D hk h0).resolve_right (fun h => h hl)
  have e1 : decide (0 < (k : Int)) = true := dT_ (by omega)
  rw [e, e1]
  generalize decide (0 ≤ l[k]) = a
  generalize decide (l[k] ≤ m) = b
  simp only [bd_some]
  generalize decide (l[k] ≤ l.getD (k - 1) 0) = c
  cases a <;> cases b <;> cases c <;> rfl
 ·have e1 : decide (0 < (k : Int)) = false := dF_ (by omega)
  rw [e1]
  generalize decide (0 ≤ l[k]) = a
  generalize decide (l[k] ≤ m) = b
  cases a <;> cases b <;> rfl
theorem c_g {r : e_} (h : 0 < r.kids.length) : idx r.kids 0 = some (I_ r) := by
 rw [d_h h, I_, a_W h]
theorem p_M (d : g_) (r : e_) (ht : r.tags.length ≤ MX) : g_b d r = some (plain r false false false true ((r.tags.length : Int) + 1) && (b_C r.tags.length && !((List.range r.tags.length).any (c_e (lim d.rules (I_ r)) r.tags)))) := by
 have hMX : MX = 1048576 := rfl
 unfold g_b
 rw [j_O, d_u, ia_ (x := (r.tags.length : Int)) (by omega) (by omega)]
 unfold b_C
 cases hp : plain r false false false true ((r.tags.length : Int) + 1)
 ·rfl
 ·have hk := c_f hp (by omega)
  rw [c_g (by omega)]
  simp only [bd_some, nT_, bF_, fF_, l_z, p_L _ _ ht]
  by_cases h18 : 1 ≤ (r.tags.length : Int) ∧ (r.tags.length : Int) ≤ 8
  ·rw [dT_ h18.1, dT_ h18.2]
   cases ha : (List.range r.tags.length).any (c_e (lim d.rules (I_ r)) r.tags)
   ·have hpos : 0 < lim d.rules (I_ r) := by
     rcases l_C d.rules (I_ r) with h | h
     ·exfalso
      have h0 : 0 < r.tags.length := by omega
      have := List.any_eq_false.1 ha 0 (List.mem_range.2 h0)
      rw [h_u h0, h] at this
      simp only [Bool.or_eq_true, Bool.not_eq_true', Bool.and_eq_false_iff, decide_eq_false_iff_not] at this
      omega
     ·exact h
    rw [dT_ hpos]
    rfl
   ·rfl
  ·have : (decide (1 ≤ (r.tags.length : Int)) && decide ((r.tags.length : Int) ≤ 8)) = false := by
    rw [Bool.and_eq_false_iff]
    simp only [decide_eq_false_iff_not]
    omega
   rw [this]
   rfl
theorem p_N (d : g_) (r : e_) (hd : d.rules.length ≤ MX) (ht : r.tags.length ≤ MX) : f_R d r = some (((r.kids.length : Int) == (r.tags.length : Int) + 1) && (b_C r.tags.length && !((List.range r.tags.length).any (c_e (lim d.rules (I_ r)) r.tags)))) := by
 have hMX : MX = 1048576 := rfl
 unfold f_R
 rw [ia_ (x := (r.tags.length : Int)) (by omega) (by omega), a_V]
 unfold b_C
 by_cases hk : (r.kids.length : Int) = (r.tags.length : Int) + 1
 ·have e2 : ((r.kids.length : Int) == (r.tags.length : Int) + 1) = true := by simpa using hk
  have e3 : ((r.kids.length : Int) != (r.tags.length : Int) + 1) = false := by simpa using hk
  rw [e2, e3]
  rw [d_i (c_e (lim d.rules (I_ r)) r.tags) false]
  ·generalize (List.range r.tags.length).any (c_e (lim d.rules (I_ r)) r.tags) = a
   generalize (decide (1 ≤ (r.tags.length : Int)) && decide ((r.tags.length : Int) ≤ 8)) = c
   cases a <;> cases c <;> rfl
  ·intro k hk' _
   simp only [ix_ hk', bd_some, c_g (show 0 < r.kids.length by omega), l_A d _ hd, a_V, h_u hk']
   by_cases h0 : 0 < k
   ·have e := (l_D hk' h0).resolve_right (fun h => h ht)
    have e1 : decide (0 < (k : Int)) = true := dT_ (by omega)
    rw [e, e1]
    generalize decide (0 ≤ r.tags[k]) = a
    generalize decide (r.tags[k] ≤ lim d.rules (I_ r)) = b
    simp only [bd_some]
    generalize decide (r.tags[k] ≤ r.tags.getD (k - 1) 0) = c
    cases a <;> cases b <;> cases c <;> rfl
   ·have e1 : decide (0 < (k : Int)) = false := dF_ (by omega)
    rw [e1]
    generalize decide (0 ≤ r.tags[k]) = a
    generalize decide (r.tags[k] ≤ lim d.rules (I_ r)) = b
    cases a <;> cases b <;> rfl
 ·have e2 : ((r.kids.length : Int) == (r.tags.length : Int) + 1) = false := by simpa using hk
  have e3 : ((r.kids.length : Int) != (r.tags.length : Int) + 1) = true := by simpa using hk
  rw [e2, e3]
  rfl
theorem p_O (n : Nat) (hn : 14 ≤ n) (d : g_) (r : e_) (ht : r.tags.length ≤ MX) : g_c n d r = some (a_q d.rules r) := by
 unfold g_c a_q
 rw [p_K n hn, p_M d r ht]
 simp only [j_O, d_u, l_z, bd_some]
 cases (r.kind == 1) with
 | true =>
  generalize plain r true false false false 0 = a
  generalize (decide (1 ≤ r.size) && decide (r.size ≤ 4)) = b
  generalize decide (1 < r.size) = c
  generalize r.little = e
  cases a <;> cases b <;> cases c <;> cases e <;> rfl
 | false =>
 cases (r.kind == 2) with
 | true =>
  generalize plain r false true false false 0 = a
  cases a <;> rfl
 | false =>
 cases (r.kind == 3) with
 | true =>
  generalize plain r true false false false 0 = a
  cases a <;> rfl
 | false =>
 cases (r.kind == 4) with
 | true =>
  cases hp : plain r false false false false 1
  ·rfl
  ·have hk := c_f hp (by omega)
   rw [c_g (by omega)]
   rfl
 | false =>
 cases (r.kind == 5) with
 | true =>
  cases hp : plain r false false false false 2
  ·rfl
  ·have hk := c_f hp (by omega)
   rw [c_g (by omega)]
   rfl
 | false =>
 cases (r.kind == 6) with
 | true => rfl
 | false =>
 cases (r.kind == 7) with
 | true => rfl
 | false =>
 cases (r.kind == 8) with
 | true => rfl
 | false =>
 cases (r.kind == 9) with
 | true => rfl
 | false =>
 cases (r.kind == 10) with
 | true =>
  generalize plain r false true false false 0 = a
  by_cases hb : (r.bytes.length : Int) = 1
  ·have e : ((r.bytes.length : Int) == 1) = true := by simpa using hb
   rw [e, d_h (show 0 < r.bytes.length by omega), a_W (show 0 < r.bytes.length by omega)]
   cases a <;> rfl
  ·have e : ((r.bytes.length : Int) == 1) = false := by simpa using hb
   rw [e]
   cases a <;> rfl
 | false => rfl
theorem p_P (d : g_) (r : e_) (hd : d.rules.length ≤ MX) (ht : r.tags.length ≤ MX) : f_S d r = some (a_q d.rules r && (!r.little || r.kind == 1)) := by
 unfold f_S a_q
 rw [p_N d r hd ht, p_J]
 simp only [p_F, a_V, l_A d _ hd, bd_some]
 have e7 : plain r false false false true ((r.tags.length : Int) + 1) = (plain r false false false true (-1) && ((r.kids.length : Int) == (r.tags.length : Int) + 1)) := by
  rw [l_B, dF_ (show ¬ ((r.tags.length : Int) + 1 < 0) by omega)]; rfl
 rw [e7]
 cases (r.kind == 1) with
 | true =>
  generalize plain r true false false false 0 = a
  generalize (decide (1 ≤ r.size) && decide (r.size ≤ 4)) = b
  generalize decide (1 < r.size) = c
  generalize r.little = e
  cases a <;> cases b <;> cases c <;> cases e <;> rfl
 | false =>
 generalize r.little = e
 cases (r.kind == 2) with
 | true =>
  generalize plain r false true false false 0 = a
  generalize (decide (1 ≤ (r.bytes.length : Int)) && decide ((r.bytes.length : Int) ≤ 16)) = b
  cases a <;> cases e <;> cases b <;> rfl
 | false =>
 cases (r.kind == 3) with
 | true =>
  generalize plain r true false false false 0 = a
  generalize (decide (1 ≤ r.size) && decide (r.size ≤ 64)) = b
  cases a <;> cases e <;> cases b <;> rfl
 | false =>
 cases (r.kind == 4) with
 | true =>
  cases hp : plain r false false false false 1
  ·rfl
  ·have hk := c_f hp (by omega)
   rw [c_g (by omega)]
   simp only [bd_some]
   generalize decide (0 < lim d.rules (I_ r)) = b
   cases e <;> cases b <;> rfl
 | false =>
 cases (r.kind == 5) with
 | true =>
  cases hp : plain r false false false false 2
  ·rfl
  ·have hk := c_f hp (by omega)
   rw [c_g (by omega)]
   simp only [bd_some]
   generalize decide (0 < lim d.rules (I_ r)) = b
   cases e <;> cases b <;> rfl
 | false =>
 cases (r.kind == 6) with
 | true =>
  generalize plain r false false true false r.names.length = a
  generalize (!((List.range r.names.length).any (b_U r.names)) && b_C r.names.length) = b
  cases a <;> cases e <;> cases b <;> rfl
 | false =>
 cases (r.kind == 7) with
 | true =>
  generalize plain r false false false true (-1) = a
  generalize ((r.kids.length : Int) == (r.tags.length : Int) + 1) = b
  generalize (b_C r.tags.length && !((List.range r.tags.length).any (c_e (lim d.rules (I_ r)) r.tags))) = c
  cases a <;> cases e <;> cases b <;> cases c <;> rfl
 | false =>
 cases (r.kind == 8) with
 | true =>
  generalize plain r false false false false 1 = a
  cases a <;> cases e <;> rfl
 | false =>
 cases (r.kind == 9) with
 | true =>
  generalize plain r false false false false 1 = a
  cases a <;> cases e <;> rfl
 | false =>
 cases (r.kind == 10) with
 | true =>
  generalize plain r false true false false 0 = a
  by_cases hb : (r.bytes.length : Int) = 1
  ·have e : ((r.bytes.length : Int) == 1) = true := by simpa using hb
   rw [e, d_h (show 0 < r.bytes.length by omega), a_W (show 0 < r.bytes.length by omega)]
   simp only [bd_some]
   generalize (byteI r.bytes[0] != byteI (92 : UInt8)) = b
   rename_i e'
   cases a <;> cases e' <;> cases b <;> rfl
  ·have e : ((r.bytes.length : Int) == 1) = false := by simpa using hb
   rw [e]
   rename_i e'
   cases a <;> cases e' <;> rfl
 | false => cases e <;> rfl
def c_J (i : Nat) (k : Int) : Bool := decide (k < 0) || decide ((i : Int) ≤ k)
def c_K (rs : List e_) (i : Nat) : Bool := match rs[i]? with
 | none => false
 | some r => (a_U r.name && !(r.little && r.kind != 1)) && (!((rs.take i).any (fun x => x.name.b == r.name.b)) && (!(r.kids.any (c_J i)) && a_q rs r))
def a_m (d : g_) : Bool := (decide (1 ≤ (d.rules.length : Int)) && decide ((d.rules.length : Int) ≤ 24)) && !((List.range d.rules.length).any (fun i => !c_K d.rules i))
theorem p_Q (n : Nat) (hn : 14 ≤ n) (d : g_) (hd : SmD d) {i : Nat} (hi : i < d.rules.length) : g_d n d i = some (c_K d.rules i) := by
 unfold g_d d_G c_K
 have hr := hd.each d.rules[i] (gE_ hi)
 rw [dT_ (show (0 : Int) ≤ (i : Int) by omega), dT_ (show (i : Int) < (d.rules.length : Int) by omega), gG_ hi, ix_ hi]
 simp only [fT_, bd_some, j_N n hn, j_P (Nat.le_of_lt hi), p_O n hn d _ hr.tags]
 generalize d.rules[i] = r
 have e1 := c_N (body := (fun k220 => (fun (_ : Unit) => bd (idx (d.rules.take i) ((k220 : Nat) : Int)) fun x290 => if (x290.name.b == r.name.b) = true then some (Out.ret false : Out Unit Bool) else some (.next ())))) (l := d.rules.take i) (fun x => x.name.b == r.name.b) false (fun k hk => by simp only [ix_ hk, bd_some]; exact c_d _ _)
 have e2 := c_N (body := (fun k416 => (fun (_ : Unit) => bd (idx r.kids ((k416 : Nat) : Int)) fun x452 => bd (α := Bool) (if (decide (x452 < 0)) = true then some true else some (decide ((i : Int) ≤ x452))) (fun x466 => if x466 = true then some (Out.ret false : Out Unit Bool) else some (.next ()))))) (l := r.kids) (c_J i) false (fun k hk => by
  simp only [ix_ hk, bd_some]
  rw [show c_J i r.kids[k] = (decide (r.kids[k] < 0) || decide ((i : Int) ≤ r.kids[k])) from rfl]
  generalize decide (r.kids[k] < 0) = a
  generalize decide ((i : Int) ≤ r.kids[k]) = b
  cases a <;> cases b <;> rfl)
 rw [e1, e2]
 generalize a_U r.name = a
 generalize r.little = b
 generalize (r.kind != 1) = c
 generalize (d.rules.take i).any (fun x => x.name.b == r.name.b) = x
 generalize r.kids.any (c_J i) = y
 generalize a_q d.rules r = z
 cases a <;> cases b <;> cases c <;> cases x <;> cases y <;> rfl
theorem p_R (d : g_) (hd : SmD d) {i : Nat} (hi : i < d.rules.length) : f_T d i = some (c_K d.rules i) := by
 have hMX : MX = 1048576 := rfl
 have hdl := hd.rules
 unfold f_T c_K
 have hr := hd.each d.rules[i] (gE_ hi)
 rw [a_V, a_h (x := (d.rules.length : Int)) (by omega) (by omega), a_h (x := (i : Int)) (by omega) (by omega), dT_ (show (0 : Int) ≤ (i : Int) by omega), dT_ (show (i : Int) ≤ (d.rules.length : Int) - 1 by omega), gG_ hi, ix_ hi]
 simp only [bd_some, j_M, p_P d _ hd.rules hr.tags]
 generalize d.rules[i] = r
 have hl : ((i : Int)).toNat = (d.rules.take i).length := by simp; omega
 have e1 : w_ (σ := Unit) (ρ := Bool) (fun k137 => (fun (_ : Unit) => bd (idx d.rules ((k137 : Nat) : Int)) fun x207 => if (x207.name.b == r.name.b) = true then some (.ret false) else some (.next ()))) (i : Int).toNat 0 () = some (if (d.rules.take i).any (fun x => x.name.b == r.name.b) = true then .inr false else .inl ()) := by
  rw [hl]
  refine c_N (fun x : e_ => x.name.b == r.name.b) false (fun k hk => ?_)
  have hk' : k < d.rules.length := by simp at hk; omega
  simp only [ix_ hk', bd_some, List.getElem_take]
  exact c_d _ _
 have e2 : w_ (σ := Unit) (ρ := Bool) (fun k317 => (fun (_ : Unit) => bd (idx r.kids ((k317 : Nat) : Int)) fun x366 => bd (a_n x366 0 ((i : Int) - 1)) fun r381 => if (!r381) = true then some (.ret false) else some (.next ()))) r.kids.length 0 () = some (if r.kids.any (c_J i) = true then .inr false else .inl ()) := by
  refine c_N (c_J i) false (fun k hk => ?_)
  simp only [ix_ hk, bd_some, a_V]
  rw [show c_J i r.kids[k] = !(decide (0 ≤ r.kids[k]) && decide (r.kids[k] ≤ (i : Int) - 1)) from by
   unfold c_J
   by_cases h0 : r.kids[k] < 0
   ·rw [dT_ h0, dF_ (show ¬ 0 ≤ r.kids[k] by omega)]; rfl
   ·rw [dF_ h0, dT_ (show 0 ≤ r.kids[k] by omega)]
    by_cases h1 : (i : Int) ≤ r.kids[k]
    ·rw [dT_ h1, dF_ (show ¬ r.kids[k] ≤ (i : Int) - 1 by omega)]; rfl
    ·rw [dF_ h1, dT_ (show r.kids[k] ≤ (i : Int) - 1 by omega)]; rfl]
  exact c_d _ _
 rw [e1, e2]
 have e3 : (!(r.little && r.kind != 1)) = (!r.little || r.kind == 1) := by
  simp only [bne]
  generalize (r.kind == 1) = c
  cases r.little <;> cases c <;> rfl
 rw [e3]
 generalize a_U r.name = a
 generalize (!r.little || r.kind == 1) = b
 generalize (d.rules.take i).any (fun x => x.name.b == r.name.b) = x
 generalize r.kids.any (c_J i) = y
 generalize a_q d.rules r = z
 cases a <;> cases b <;> cases x <;> cases y <;> cases z <;> rfl
theorem l_E (n : Nat) (hn : 14 ≤ n) (d : g_) (hd : SmD d) : e_Q n d = some (a_m d) := by
 unfold e_Q a_m
 rw [d_u, d_i (fun i => !c_K d.rules i) false (fun k hk _ => by rw [p_Q n hn d hd hk]; simp only [bd_some]; exact c_d _ _)]
 generalize (decide (1 ≤ (d.rules.length : Int)) && decide ((d.rules.length : Int) ≤ 24)) = a
 generalize (List.range d.rules.length).any (fun i => !c_K d.rules i) = b
 cases a <;> cases b <;> rfl
theorem l_F (d : g_) (hd : SmD d) : e_K d = some (a_m d) := by
 unfold e_K a_m
 rw [a_V, d_i (fun i => !c_K d.rules i) false (fun k hk _ => by rw [p_R d hd hk]; simp only [bd_some]; exact c_d _ _)]
 generalize (decide (1 ≤ (d.rules.length : Int)) && decide ((d.rules.length : Int) ≤ 24)) = a
 generalize (List.range d.rules.length).any (fun i => !c_K d.rules i) = b
 cases a <;> cases b <;> rfl
def b_V (d : g_) (r : Int) : Bool := decide (0 ≤ r) && decide (r < (d.rules.length : Int))
theorem p_S (n : Nat) (hn : 14 ≤ n) (d : g_) (hd : SmD d) (r : Int) : g_f n d r = some (a_m d && b_V d r) := by
 unfold g_f d_G b_V
 rw [l_E n hn d hd]
 generalize a_m d = a
 generalize decide (0 ≤ r) = b
 generalize decide (r < (d.rules.length : Int)) = c
 cases a <;> cases b <;> rfl
theorem p_T (d : g_) (hd : SmD d) (r : Int) : g_2 d r = some (a_m d && b_V d r) := by
 have hMX : MX = 1048576 := rfl
 have hdl := hd.rules
 unfold g_2 b_V
 rw [l_F d hd, a_V, a_h (x := (d.rules.length : Int)) (by omega) (by omega), show decide (r ≤ (d.rules.length : Int) - 1) = decide (r < (d.rules.length : Int)) from decide_eq_decide.2 (by omega)]
 generalize a_m d = a
 generalize decide (0 ≤ r) = b
 generalize decide (r < (d.rules.length : Int)) = c
 cases a <;> cases b <;> cases c <;> rfl
end Go.Vw
set_option linter.unusedVariables false
namespace Go.Vw
open Go.RowKit Dat
def b_8 (n : Int) (c : UInt8) : Int := n * 256 + byteI c
def c_L (bs : List UInt8) (little : Bool) : Int := (if little = true then bs.reverse else bs).foldl b_8 0
theorem e_v {α β : Type} (f : β → α → β) (a : β) {l : List α} {k : Nat} (h : k < l.length) : (l.take (k + 1)).foldl f a = f ((l.take k).foldl f a) l[k] := by
 rw [List.take_add_one, gG_ h, Option.toList_some, List.foldl_append]; rfl
theorem p_U (l : List UInt8) : 0 ≤ l.foldl b_8 0 ∧ l.foldl b_8 0 < 256 ^ l.length := by
 have : ∀ k, k ≤ l.length → 0 ≤ (l.take k).foldl b_8 0 ∧ (l.take k).foldl b_8 0 < 256 ^ k := by
  intro k
  induction k with
  | zero => intro _; simp
  | succ k ih =>
   intro hk
   obtain ⟨h1, h2⟩ := ih (by omega)
   rw [e_v b_8 0 (show k < l.length by omega)]
   have h3 := d_R l[k]
   have h4 := d_S l[k]
   generalize (l.take k).foldl b_8 0 = z at *
   unfold b_8
   rw [Int.pow_succ]
   omega
 have h := this l.length (Nat.le_refl _)
 simpa using h
theorem h_v (l : List UInt8) (h : l.length ≤ 4) : 0 ≤ l.foldl b_8 0 ∧ l.foldl b_8 0 < 4294967296 := by
 obtain ⟨h1, h2⟩ := p_U l
 refine ⟨h1, ?_⟩
 have : l.length = 0 ∨ l.length = 1 ∨ l.length = 2 ∨ l.length = 3 ∨ l.length = 4 := by omega
 rcases this with h | h | h | h | h <;> rw [h] at h2 <;> omega
theorem p_V (bs : List UInt8) (e : Bool) (h : bs.length ≤ 4) : 0 ≤ c_L bs e ∧ c_L bs e < 4294967296 := by
 unfold c_L
 cases e
 ·exact h_v bs h
 ·exact h_v bs.reverse (by simpa using h)
theorem l_G {bs : List UInt8} {k : Nat} (hk : k < bs.length) (hb : bs.length ≤ 4) (e : Bool) : idx bs (if e = true then y_ (y_ (bs.length : Int) 1) (k : Int) else (k : Int)) = some ((if e = true then bs.reverse else bs)[k]'(by cases e <;> simpa using hk)) := by
 cases e
 ·exact ix_ hk
 ·rw [iP_ rfl, a_h (x := (bs.length : Int)) (by omega) (by omega), a_h (by omega) (by omega), e_C (by omega) (by omega)]
  simp only [fT_]
  rw [List.getElem_reverse]
  congr 2
  omega
theorem l_H (bs : List UInt8) (e : Bool) (hb : bs.length ≤ 4) : e_L bs e = some (c_L bs e) := by
 unfold e_L
 rw [dF_ (show ¬ (4 : Int) < (bs.length : Int) by omega)]
 have hl : (if e = true then bs.reverse else bs).length = bs.length := by cases e <;> simp
 have h := b_n (n := bs.length) (σ := Int) (ρ := Int) (body := (fun k67 => (fun x62 => bd (α := Int) (if e = true then some (y_ (y_ (bs.length : Int) 1) ((k67 : Nat) : Int)) else some ((k67 : Nat) : Int)) (fun x94 => bd (idx bs x94) fun x106 => some (.next (c_ (b_6 x62 256) (byteI x106)))))))
  (fun k => ((if e = true then bs.reverse else bs).take k).foldl b_8 0) (fun j hj => by
   have hb2 := h_v ((if e = true then bs.reverse else bs).take j) (by simp; omega)
   rw [p_E, bd_some, l_G hj hb e, bd_some, e_v b_8 0 (by rw [hl]; exact hj)]
   generalize (if e = true then bs.reverse else bs)[j]'(by rw [hl]; exact hj) = c at *
   have h3 := d_R c
   have h4 := d_S c
   rw [k_p (by omega) (by omega), ia_ (by omega) (by omega)]
   rfl)
 simp only [List.take_zero, List.foldl_nil] at h
 rw [h]
 simp only [bF_, fF_, bd_some, el_inl]
 unfold c_L
 rw [List.take_of_length_le (by omega)]
theorem j_Q {n : Int} {c : UInt8} (h0 : 0 ≤ n) (h1 : n < 4294967296) : b_f .i64 (· ||| ·) (a_P .i64 n 8) (byteI c) = b_8 n c := by
 have e : a_P .i64 n 8 = n * 256 := by
  unfold a_P
  rw [show (min (8 : Int).toNat IntKind.i64.bits) = 8 from rfl, IntKind.wrap_i64]
  omega
 rw [e]
 unfold b_f b_8
 obtain ⟨m, rfl⟩ := Int.eq_ofNat_of_zero_le h0
 have hc := c.toNat_lt
 have hm : m < 4294967296 := by omega
 have e1 : BitVec.ofInt IntKind.i64.bits ((m : Int) * 256) = BitVec.ofNat 64 (m * 256) := by
  rw [show ((m : Int) * 256) = ((m * 256 : Nat) : Int) by omega]; exact BitVec.ofInt_natCast 64 _
 have e2 : BitVec.ofInt IntKind.i64.bits (byteI c) = BitVec.ofNat 64 c.toNat := by
  unfold byteI; exact BitVec.ofInt_natCast 64 _
 show IntKind.i64.wrap ((BitVec.ofInt IntKind.i64.bits ((m : Int) * 256) ||| BitVec.ofInt IntKind.i64.bits (byteI c)).toNat : Int) = _
 rw [e1, e2]
 have e3 : (BitVec.ofNat 64 (m * 256) ||| BitVec.ofNat 64 c.toNat).toNat = m * 256 + c.toNat := by
  rw [BitVec.toNat_or, BitVec.toNat_ofNat, BitVec.toNat_ofNat, Nat.mod_eq_of_lt (by omega), Nat.mod_eq_of_lt (by omega)]
  have := Nat.shiftLeft_add_eq_or_of_lt (i := 8) (b := c.toNat) (by omega) m
  rw [Nat.shiftLeft_eq] at this
  exact this.symm
 have e4 : ((BitVec.ofNat 64 (m * 256) ||| BitVec.ofNat 64 c.toNat : BitVec IntKind.i64.bits).toNat : Int) = (m : Int) * 256 + (c.toNat : Int) := by
  rw [show (BitVec.ofNat 64 (m * 256) ||| BitVec.ofNat 64 c.toNat : BitVec IntKind.i64.bits).toNat = m * 256 + c.toNat from e3]; omega
 refine (congrArg IntKind.i64.wrap e4).trans ?_
 rw [IntKind.wrap_i64]
 unfold byteI
 omega
theorem p_W (bs : List UInt8) (e : Bool) (hb : bs.length ≤ 4) : g_g bs e = some (c_L bs e) := by
 unfold g_g
 rw [dF_ (show ¬ (4 : Int) < (bs.length : Int) by omega)]
 have hl : (if e = true then bs.reverse else bs).length = bs.length := by cases e <;> simp
 have h := b_n (n := bs.length) (σ := Int) (ρ := Int) (body := (fun k85 => (fun x80 => bd (α := Int) (if e = true then bd (idx bs (y_ (y_ (bs.length : Int) 1) ((k85 : Nat) : Int))) fun x149 => some (b_f .i64 (· ||| ·) (a_P .i64 x80 8) (byteI x149)) else bd (idx bs ((k85 : Nat) : Int)) fun x159 => some (b_f .i64 (· ||| ·) (a_P .i64 x80 8) (byteI x159))) (fun x141 => some (.next x141)))))
  (fun k => ((if e = true then bs.reverse else bs).take k).foldl b_8 0) (fun j hj => by
   have hb2 := h_v ((if e = true then bs.reverse else bs).take j) (by simp; omega)
   have hbt := l_G hj hb e
   rw [e_v b_8 0 (by rw [hl]; exact hj)]
   cases e
   ·simp only [bF_, fF_] at hbt hb2 ⊢
    rw [hbt, bd_some, bd_some, j_Q hb2.1 hb2.2]
   ·simp only [fT_] at hbt hb2 ⊢
    rw [hbt, bd_some, bd_some, j_Q hb2.1 hb2.2])
 simp only [List.take_zero, List.foldl_nil] at h
 rw [h]
 simp only [bF_, fF_, bd_some, el_inl]
 unfold c_L
 rw [List.take_of_length_le (by omega)]
def b_W (n : Int) (c : UInt8) : Int := n + byteI c
def b_X (bs : List UInt8) : Int := bs.foldl b_W 0 % 256
theorem j_R (bs : List UInt8) (k : Nat) (hk : k ≤ bs.length) : 0 ≤ (bs.take k).foldl b_W 0 ∧ (bs.take k).foldl b_W 0 ≤ 256 * k := by
 induction k with
 | zero => simp
 | succ k ih =>
  obtain ⟨h1, h2⟩ := ih (by omega)
  rw [e_v b_W 0 (show k < bs.length by omega)]
  have h3 := d_R bs[k]
  have h4 := d_S bs[k]
  generalize (bs.take k).foldl b_W 0 = z at *
  unfold b_W
  omega
theorem l_I (bs : List UInt8) (hb : bs.length ≤ MX) : e_R bs = some (b_X bs) := by
 have hMX : MX = 1048576 := rfl
 unfold e_R b_X
 have h := b_n (n := bs.length) (σ := Int) (ρ := Int) (body := (fun k48 => (fun x43 => bd (idx bs ((k48 : Nat) : Int)) fun x66 => some (.next (c_ x43 (byteI x66)))))) (fun k => (bs.take k).foldl b_W 0) (fun j hj => by
  have hbd := j_R bs j (by omega)
  have h3 := d_R bs[j]
  have h4 := d_S bs[j]
  rw [ix_ hj, bd_some, e_v b_W 0 hj, ia_ (by omega) (by omega)]
  rfl)
 simp only [List.take_zero, List.foldl_nil] at h
 rw [h]
 have hbd := j_R bs bs.length (Nat.le_refl _)
 rw [List.take_of_length_le (Nat.le_refl _)] at hbd ⊢
 simp only [bd_some, el_inl]
 rw [h_T hbd.1]
theorem l_J (bs : List UInt8) : e_N bs = some (b_X bs) := by
 have hMX : MX = 1048576 := rfl
 unfold e_N b_X
 have h := b_n (n := bs.length) (σ := Int) (ρ := Int) (body := (fun k48 => (fun x43 => bd (idx bs ((k48 : Nat) : Int)) fun x66 => some (.next (a_C (c_ x43 (byteI x66)) 256))))) (fun k => (bs.take k).foldl b_W 0 % 256) (fun j hj => by
  have hbd := j_R bs j (by omega)
  have h3 := d_R bs[j]
  have h4 := d_S bs[j]
  rw [ix_ hj, bd_some, e_v b_W 0 hj, ia_ (by omega) (by omega), h_T (by omega)]
  generalize (bs.take j).foldl b_W 0 = z at *
  unfold b_W
  congr 2
  omega)
 simp only [List.take_zero, List.foldl_nil] at h
 rw [show ((0 : Int) % 256) = 0 from rfl] at h
 rw [h]
 rw [List.take_of_length_le (Nat.le_refl _)]
 rfl
def d_d (b : List UInt8) (t : UInt8) : Nat → List UInt8 → Nat → Option (List UInt8 × Nat)
 | 0, _, _ => none
 | f + 1, acc, p => match b[p]? with
  | none => none
  | some c => if c = t then some (acc, p + 1) else if c = 92 then (match b[p + 1]? with
    | none => none
    | some c' => d_d b t f (acc ++ [c']) (p + 2)) else d_d b t f (acc ++ [c]) (p + 1)
def h_w (o : Option (List UInt8 × Nat)) : Sum (List UInt8 × Int) (List UInt8 × Int × Bool) → Prop := fun s => match o with
 | some (c, q) => s = .inr (c, (q : Int), true)
 | none => ∃ x, s = .inl x
def d_e (b : List UInt8) (at_ : Nat) (t : UInt8) : Option (List UInt8 × Nat) := d_d b t (b.length + 1) [] at_
theorem beqB (a c : UInt8) : (byteI a == byteI c) = decide (a = c) := by
 rw [Bool.eq_iff_iff]; simp only [beq_iff_eq, dE_]; exact e_B
theorem l_K (b : List UInt8) (t : UInt8) (hb : b.length ≤ MX) (step : List UInt8 × Int → Option (Out (List UInt8 × Int) (List UInt8 × Int × Bool)))
  (hstep : ∀ acc (p : Nat), step (acc, (p : Int)) = if decide ((p : Int) < (b.length : Int)) = true then bd (idx b (p : Int)) fun x311 => if ((byteI x311) == (byteI t)) = true then some (.ret (acc, c_ (p : Int) 1, true)) else bd (idx b (p : Int)) fun x335 => bd (α := Sum Int (Out ((List UInt8) × Int) ((List UInt8) × Int × Bool))) (if ((byteI x335) == (byteI (92 : UInt8))) = true then if ((c_ (p : Int) 1) == (b.length : Int)) = true then some (.inr (.brk (acc, c_ (p : Int) 1))) else some (.inl (c_ (p : Int) 1)) else some (.inl (p : Int))) (el (fun x354 => bd (idx b x354) fun x380 => bd (psh acc x380) fun x406 => some (.next (x406, c_ x354 1))) some) else some (.brk (acc, (p : Int)))) :
  ∀ f acc p, acc.length ≤ p → p ≤ b.length → b.length < p + f → ∀ n, f ≤ n → ∃ s, E_ step n (acc, (p : Int)) = some s ∧ h_w (d_d b t f acc p) s := by
 have hMX : MX = 1048576 := rfl
 have hLIM : LIM = 4294967296 := rfl
 intro f
 induction f with
 | zero => intro acc p _ _ h; omega
 | succ f ih =>
  intro acc p hacc hp hf n hn
  obtain ⟨m, rfl⟩ : ∃ m, n = m + 1 := ⟨n - 1, by omega⟩
  unfold E_ d_d
  rw [hstep]
  by_cases hlt : p < b.length
  ·rw [dT_ (show (p : Int) < (b.length : Int) by omega), ix_ hlt, gG_ hlt]
   simp only [fT_, bd_some, beqB]
   rw [ia_ (x := (p : Int)) (by omega) (by omega)]
   by_cases ht : b[p] = t
   ·rw [dT_ ht, iP_ rfl, iP_ ht]
    exact ⟨_, rfl, by simp [h_w]⟩
   ·rw [dF_ ht, iN_ (by simp), iN_ ht]
    by_cases he : b[p] = 92
    ·rw [dT_ he, iP_ rfl, iP_ he]
     by_cases hl : p + 1 < b.length
     ·have e1 : ((p : Int) + 1 == (b.length : Int)) = false := by simp; omega
      rw [e1, gG_ hl]
      simp only [bF_, fF_, bd_some, el_inl]
      rw [show (p : Int) + 1 = ((p + 1 : Nat) : Int) by omega, ix_ hl, bd_some, a_Q (by omega), bd_some, ia_ (by omega) (by omega)]
      obtain ⟨s, h1, h2⟩ := ih (acc ++ [b[p + 1]]) (p + 2) (by simp; omega) (by omega) (by omega) m (by omega)
      refine ⟨s, ?_, h2⟩
      rw [← h1]
      simp only
      congr 2
     ·have e1 : ((p : Int) + 1 == (b.length : Int)) = true := by simp; omega
      rw [e1, gN_ (by omega)]
      exact ⟨_, rfl, _, rfl⟩
    ·rw [dF_ he, iN_ (by simp), iN_ he]
     simp only [bd_some, el_inl]
     rw [ix_ hlt, bd_some, a_Q (by omega), bd_some, ia_ (by omega) (by omega)]
     obtain ⟨s, h1, h2⟩ := ih (acc ++ [b[p]]) (p + 1) (by simp; omega) (by omega) (by omega) m (by omega)
     refine ⟨s, ?_, h2⟩
     rw [← h1]
     simp only
     congr 2
  ·rw [dF_ (show ¬ (p : Int) < (b.length : Int) by omega), gN_ (by omega)]
   exact ⟨_, rfl, _, rfl⟩
def h_x (o : Option (List UInt8 × Nat)) (at_ : Nat) : List UInt8 × Int × Bool := match o with
 | some (c, q) => (c, (q : Int), true)
 | none => ([], (at_ : Int), false)
theorem p_X (n : Nat) (b : List UInt8) (at_ : Nat) (t : UInt8) (hb : b.length ≤ MX) (ha : at_ ≤ b.length) (hn : b.length + 1 ≤ n) : g_h n b at_ t = some (h_x (d_e b at_ t) at_) := by
 unfold g_h d_e
 rw [dF_ (show ¬ (at_ : Int) < 0 by omega), dF_ (show ¬ (b.length : Int) < (at_ : Int) by omega)]
 simp only [bF_, fF_, bd_some]
 obtain ⟨s, h1, h2⟩ := l_K b t hb (un2 fun x207 x215 => if (decide (x215 < (b.length : Int))) = true then bd (idx b x215) fun x311 => if ((byteI x311) == (byteI t)) = true then some (.ret (x207, c_ x215 1, true)) else bd (idx b x215) fun x335 => bd (α := Sum Int (Out ((List UInt8) × Int) ((List UInt8) × Int × Bool))) (if ((byteI x335) == (byteI (92 : UInt8))) = true then if ((c_ x215 1) == (b.length : Int)) = true then some (.inr (.brk (x207, c_ x215 1))) else some (.inl (c_ x215 1)) else some (.inl x215)) (el (fun x354 => bd (idx b x354) fun x380 => bd (psh x207 x380) fun x406 => some (.next (x406, c_ x354 1))) some) else some (.brk (x207, x215))) (fun acc p => rfl) (b.length + 1) [] at_ (by simp) ha (by omega) n hn
 rw [h1, bd_some]
 unfold h_w at h2
 unfold h_x
 cases ho : d_d b t (b.length + 1) [] at_ with
 | none => rw [ho] at h2; obtain ⟨x, rfl⟩ := h2; rfl
 | some x => rw [ho] at h2; simp only at h2; subst h2; rfl
theorem p_Y (n : Nat) (b : List UInt8) (at_ : Nat) (t : UInt8) (hb : b.length ≤ MX) (ha : at_ ≤ b.length) (hn : b.length + 1 ≤ n) : f_W n b at_ t = some (h_x (d_e b at_ t) at_) := by
 unfold f_W d_e
 have hin : a_n (at_ : Int) 0 (b.length : Int) = some true := by
  rw [a_V, dT_ (show (0 : Int) ≤ (at_ : Int) by omega), dT_ (show (at_ : Int) ≤ (b.length : Int) by omega)]; rfl
 obtain ⟨s, h1, h2⟩ := l_K b t hb (un2 fun x210 x218 => bd (α := Bool) (bd (a_n (at_ : Int) 0 (b.length : Int)) fun r255 => if r255 = true then some (decide (x218 < (b.length : Int))) else some false) (fun x246 => if x246 = true then bd (idx b x218) fun x354 => if ((byteI x354) == (byteI t)) = true then some (.ret (x210, c_ x218 1, true)) else bd (idx b x218) fun x382 => bd (α := Sum Int (Out ((List UInt8) × Int) ((List UInt8) × Int × Bool))) (if ((byteI x382) == (byteI (92 : UInt8))) = true then if ((c_ x218 1) == (b.length : Int)) = true then some (.inr (.brk (x210, c_ x218 1))) else some (.inl (c_ x218 1)) else some (.inl x218)) (el (fun x403 => bd (idx b x403) fun x433 => bd (psh x210 x433) fun x460 => some (.next (x460, c_ x403 1))) some) else some (.brk (x210, x218)))) (fun acc p => by simp only [un2, hin, bd_some, fT_]) (b.length + 1) [] at_ (by simp) ha (by omega) n hn
 rw [h1, bd_some]
 unfold h_w at h2
 unfold h_x
 cases ho : d_d b t (b.length + 1) [] at_ with
 | none => rw [ho] at h2; obtain ⟨x, rfl⟩ := h2; rfl
 | some x => rw [ho] at h2; simp only at h2; subst h2; rfl
theorem j_S {b : List UInt8} {t : UInt8} : ∀ f acc p c q, d_d b t f acc p = some (c, q) → p < q ∧ q ≤ b.length
 | 0, _, _, _, _, h => by cases h
 | f + 1, acc, p, c, q, h => by
  unfold d_d at h
  by_cases hlt : p < b.length
  ·rw [gG_ hlt] at h
   simp only at h
   split at h
   ·cases h; omega
   ·split at h
    ·by_cases hl : p + 1 < b.length
     ·rw [gG_ hl] at h
      have := j_S f _ _ _ _ h
      omega
     ·rw [gN_ (by omega)] at h
      cases h
    ·have := j_S f _ _ _ _ h
     omega
  ·rw [gN_ (by omega)] at h
   cases h
end Go.Vw
