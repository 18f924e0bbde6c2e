import Derived.Test.YtfdcdeahjejlmaaGreatDoorVqGl
import Derived.Test.YtfdcdeahjejlmaaGreatDoorVqLens
import Derived.Test.YtfdcdeahjejlmaaGreatDoorVqVal
import Derived.Test.YtfdcdeahjejlmaaGreatDoorVqFun
import Derived.Test.YtfdcdeahjejlmaaGreatDoorVqShr
set_option linter.unusedVariables false
universe u
namespace Go.Vw
open Go.RowKit Dat
section
variable {P : Program} {N : Nat} {ops : Array Oper} {K : Act → World → Prop} {Q : Exit → Act → World → Prop} {e : Env} {w : World} {rest : List Oper}
variable {d : Nat} {op : Op} {ty : TypeId} {pos : String} {aft : Array Edge} {x : Operand}
theorem Wn {y : Code} {Q' : Exit → Act → World → Prop} (h : WC P N y K Q e w) : WL P N ops (KC P y K Q) Q' [] e w := f_f (WC.of_KC h)
theorem Ws {id : Nat} {l : List Oper} {y : Code} (h : WL P N l.toArray (KC P y K Q) Q l e w) : WC P N (.seq (.region id l.toArray false) y) K Q e w := h_6 (h_7 h)
theorem Wk {y : Code} {Q' : Exit → Act → World → Prop} (h : WC P N y K Q e w) : WC P N .skip (KC P y K Q) Q' e w := a_J (WC.of_KC h)
theorem c_O {b : Bool} {o : Option Value} {v : Value} (h : (bif b then o else none) = some v) : b = true ∧ o = some v := by
 cases b
 ·cases h
 ·exact ⟨rfl, h⟩
theorem Rm {v : Value} (h : (bif Nat.blt d N then ev e x else none) = some v) (k : WL P N ops K Q rest ((d, v) :: e) w) : WL P N ops K Q (⟨some d, .move x, ty, pos, aft, none⟩ :: rest) e w := R (c_O h).1 (h_j (c_O h).2) k
theorem Ra {v : Value} (h : (bif Nat.blt d N then ev e x else none) = some v) (k : WL P N ops K Q rest ((d, v) :: e) w) : WL P N ops K Q (⟨some d, .assign x, ty, pos, aft, none⟩ :: rest) e w := R (c_O h).1 (h_k (c_O h).2) k
section
variable {j : Nat} {want b : Bool}
theorem bind_some {o : Option Nat} {v : Value} (h : o.bind (q_ e) = some v) : ∃ gd, o = some gd ∧ q_ e gd = some v := by
 cases o with
 | none => cases h
 | some g => exact ⟨g, rfl, h⟩
theorem Rh {v : Value} (h : (bif Nat.blt d N then ((ops[j]?).bind (·.dst)).bind (q_ e) else none) = some (.bool b)) (hw : b = want) (hr : Rd noX P N ⟨some d, op, ty, pos, aft, some (j, want)⟩ e w v) (k : WL P N ops K Q rest ((d, v) :: e) w) : WL P N ops K Q (⟨some d, op, ty, pos, aft, some (j, want)⟩ :: rest) e w := by
 obtain ⟨gd, h1, h2⟩ := bind_some (c_O h).2
 exact Rg h1 h2 hw (c_O h).1 hr k
theorem Nh (h : (bif Nat.blt d N then ((ops[j]?).bind (·.dst)).bind (q_ e) else none) = some (.bool b)) (hw : b = !want) (k : WL P N ops K Q rest ((d, undef) :: e) w) : WL P N ops K Q (⟨some d, op, ty, pos, aft, some (j, want)⟩ :: rest) e w := by
 obtain ⟨gd, h1, h2⟩ := bind_some (c_O h).2
 exact Ng h1 h2 hw (c_O h).1 k
theorem Nv (h : (bif Nat.blt d N then ((ops[j]?).bind (·.dst)).bind (q_ e) else none) = some undef) (k : WL P N ops K Q rest ((d, undef) :: e) w) : WL P N ops K Q (⟨some d, op, ty, pos, aft, some (j, want)⟩ :: rest) e w := by
 obtain ⟨gd, h1, h2⟩ := bind_some (c_O h).2
 exact Nu h1 h2 (c_O h).1 k
end
end
theorem e_F {j : Nat} {K' : Act → World → Prop} {Q : Exit → Act → World → Prop} {a : Act} {w : World} (h : Q .ret a w) : inB j K' Q .ret a w := h
theorem goF {P : Program} {f : FuncId} {fn0 : Func} {c : Code} {N : Nat} {args : List Value} {w : World} {R : Value → World → Prop} (hf : P.funcs[f]? = some fn0) (hb : fn0.body = some c) (hN : fn0.ntmps = N) (hle : args.length ≤ N) (h : ∀ fn : Func, fn.results = fn0.results → WC P N c (v_ P fn R) (QR P fn R) (d_W 0 args) w) : j_ P f args w R := p_a hf hb hN hle (h fn0 rfl)
abbrev _root_.Go.World.z (w : World) : Nat := w.heap.size
abbrev sl (a : Option Addr) (n c : Nat) : Value := .slice a n c
abbrev pt (g : Nat) : Value := .pointer (some ⟨g, 0, none⟩)
abbrev Bw (a b : World) : Prop := Below a.heap.size a b
abbrev vR (x : e_) (a1 : Option Addr) (n1 c1 : Nat) (a2 : Option Addr) (n2 c2 : Nat) (a3 : Option Addr) (n3 c3 : Nat) (a4 : Option Addr) (n4 c4 : Nat) : List Value := [x.name.v, vI x.kind, vI x.size, vB x.little, .slice a1 n1 c1, .slice a2 n2 c2, .slice a3 n3 c3, .slice a4 n4 c4]
theorem z {α : Sort u} {a : α} : a = a := rfl
theorem Sat.k {N : Nat} {e e' : Env} {a : Act} (h : Sat N e a) (hs : sub e e') : Sat N e' a := h.weaken hs
theorem fid {a : Prop} (h : a) : a := h
theorem lt_ {a b c : Nat} (h : a ≤ b) (h' : b ≤ c) : a ≤ c := Nat.le_trans h h'
theorem lr {a : Nat} : a ≤ a := Nat.le_refl a
theorem lb {a b : Nat} (h : Nat.ble a b = true) : a ≤ b := Nat.le_of_ble_eq_true h
theorem ii {x : Int} (h : (decide (-9223372036854775808 ≤ x) && decide (x ≤ 9223372036854775807)) = true) : inI x := inI_of x h
section
variable {S T A M : List Nat} {m n g k : Nat}
theorem k_r (h : m ≤ n) : ∀ k ∈ [n], m ≤ k := f_ h
theorem mno (h : ∀ k ∈ T, k < m) (h' : m ≤ n) : ∀ k ∈ [n], k ∉ T := f_ (fun ht => absurd (h n ht) (Nat.not_lt.2 h'))
theorem mnr (h : ∀ k ∈ T, k < m) : ∀ k ∈ [m], k ∉ T := mno h lr
theorem mm1 (h : g < m) (h' : m ≤ n) : ∀ k ∈ [n], k ∉ [g] := mno (f_ h) h'
theorem mmr (h : g < m) : ∀ k ∈ [m], k ∉ [g] := mno (f_ h) lr
theorem mor (h : m ≤ n) : ∀ k ∈ [n], k ∈ M ∨ m ≤ k := f_ (.inr h)
theorem m_ (hs : ∀ k ∈ S, n ≤ k) (h : m ≤ n) : ∀ k ∈ S, m ≤ k := or0 hs (a_E h)
theorem p_ (hs : ∀ k ∈ S, n ≤ k) (h : g < m) (h' : m ≤ n) : ∀ k ∈ S, k ∉ [g] := or0 hs (a_A (f_ h) h')
theorem a_u (hs : ∀ k ∈ S, n ≤ k) (h : ∀ k ∈ T, k < m) (h' : m ≤ n) : ∀ k ∈ S, k ∉ T := or0 hs (a_A h h')
theorem a_x (hs : ∀ k ∈ S, k ∈ A ∨ n ≤ k) (ha : ∀ k ∈ A, m ≤ k) (h : m ≤ n) : ∀ k ∈ S, m ≤ k := or1 hs ha (a_E h)
theorem b_o (hs : ∀ k ∈ S, k ∈ A ∨ n ≤ k) (ha : ∀ k ∈ A, k ∉ T) (h : ∀ k ∈ T, k < m) (h' : m ≤ n) : ∀ k ∈ S, k ∉ T := or1 hs ha (a_A h h')
theorem djs (h : ∀ k ∈ S, k ∉ [g]) : g ∉ S := fun hg => h g hg (List.mem_singleton.2 rfl)
theorem atp {p : Nat → Prop} (h : ∀ k ∈ [g], p k) : p g := h g (List.mem_singleton.2 rfl)
theorem nd0 : ([] ++ [] : List Nat).Nodup := h_c K_ K_ all_nil
theorem al0 {p : Nat → Prop} : ∀ k ∈ ([] ++ [] : List Nat), p k := h_b all_nil all_nil
end
section
variable {e e' : Env} {v1 v2 v3 v4 v5 v6 v7 v8 v9 : Value} {k1 k2 k3 k4 k5 k6 k7 k8 k9 : Nat}
theorem s1 (h1 : q_ e k1 = some v1) : sub e [(k1, v1)] := ⟨h1, trivial⟩
theorem s2 (h1 : q_ e k1 = some v1) (h2 : q_ e k2 = some v2) : sub e [(k1, v1), (k2, v2)] := ⟨h1, s1 h2⟩
theorem s3 (h1 : q_ e k1 = some v1) (h2 : q_ e k2 = some v2) (h3 : q_ e k3 = some v3) : sub e [(k1, v1), (k2, v2), (k3, v3)] := ⟨h1, s2 h2 h3⟩
theorem s4 (h1 : q_ e k1 = some v1) (h2 : q_ e k2 = some v2) (h3 : q_ e k3 = some v3) (h4 : q_ e k4 = some v4) : sub e [(k1, v1), (k2, v2), (k3, v3), (k4, v4)] := ⟨h1, s3 h2 h3 h4⟩
theorem s5 (h1 : q_ e k1 = some v1) (h2 : q_ e k2 = some v2) (h3 : q_ e k3 = some v3) (h4 : q_ e k4 = some v4) (h5 : q_ e k5 = some v5) : sub e [(k1, v1), (k2, v2), (k3, v3), (k4, v4), (k5, v5)] := ⟨h1, s4 h2 h3 h4 h5⟩
theorem s6 (h1 : q_ e k1 = some v1) (h2 : q_ e k2 = some v2) (h3 : q_ e k3 = some v3) (h4 : q_ e k4 = some v4) (h5 : q_ e k5 = some v5) (h6 : q_ e k6 = some v6) : sub e [(k1, v1), (k2, v2), (k3, v3), (k4, v4), (k5, v5), (k6, v6)] := ⟨h1, s5 h2 h3 h4 h5 h6⟩
theorem s7 (h1 : q_ e k1 = some v1) (h2 : q_ e k2 = some v2) (h3 : q_ e k3 = some v3) (h4 : q_ e k4 = some v4) (h5 : q_ e k5 = some v5) (h6 : q_ e k6 = some v6) (h7 : q_ e k7 = some v7) : sub e [(k1, v1), (k2, v2), (k3, v3), (k4, v4), (k5, v5), (k6, v6), (k7, v7)] := ⟨h1, s6 h2 h3 h4 h5 h6 h7⟩
theorem s8 (h1 : q_ e k1 = some v1) (h2 : q_ e k2 = some v2) (h3 : q_ e k3 = some v3) (h4 : q_ e k4 = some v4) (h5 : q_ e k5 = some v5) (h6 : q_ e k6 = some v6) (h7 : q_ e k7 = some v7) (h8 : q_ e k8 = some v8) : sub e [(k1, v1), (k2, v2), (k3, v3), (k4, v4), (k5, v5), (k6, v6), (k7, v7), (k8, v8)] := ⟨h1, s7 h2 h3 h4 h5 h6 h7 h8⟩
theorem s9 (h1 : q_ e k1 = some v1) (h2 : q_ e k2 = some v2) (h3 : q_ e k3 = some v3) (h4 : q_ e k4 = some v4) (h5 : q_ e k5 = some v5) (h6 : q_ e k6 = some v6) (h7 : q_ e k7 = some v7) (h8 : q_ e k8 = some v8) (h9 : q_ e k9 = some v9) : sub e [(k1, v1), (k2, v2), (k3, v3), (k4, v4), (k5, v5), (k6, v6), (k7, v7), (k8, v8), (k9, v9)] := ⟨h1, s8 h2 h3 h4 h5 h6 h7 h8 h9⟩
end
theorem onL {α : Type} [Dat α] {w : World} : b_ w [] (.slice none 0 0) ([] : List α) := j_3 w
theorem _root_.Go.RowKit.Below.s {b : Nat} {w w' : World} (h : Below b w w') : w.heap.size ≤ w'.heap.size := h.size
theorem Chg.s {X : Nat → Prop} {w w' : World} (h : Chg X w w') : w.heap.size ≤ w'.heap.size := h.size
abbrev a_.e := @a_.ext
abbrev a_.c := @a_.chg
abbrev b_.e := @b_.ext
abbrev b_.c := @b_.chg
abbrev M_.e := @M_.ext
abbrev M_.c := @M_.chg
abbrev a_k.e := @a_k.ext
abbrev a_k.c := @a_k.chg
abbrev b_B.e := @b_B.ext
abbrev GlW.e := @GlW.ext
abbrev GlW.c := @GlW.chg
abbrev Blk.e := @Blk.ext
abbrev Blk.c := @Blk.chg
abbrev L_.e := @L_.ext
abbrev L_.c := @L_.chg
end Go.Vw
