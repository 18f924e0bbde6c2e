import Derived.Test.YtfdcdeahjejlmaaGreatDoorVqLoop
import Derived.Laws.BytesString
set_option linter.unusedVariables false
namespace Go.Vw
open Go.RowKit Dat
def bd {α β : Type} (o : Option α) (f : α → Option β) : Option β := match o with
 | none => none
 | some a => f a
def bd2 {α β γ : Type} (o : Option (α × β)) (f : α → β → Option γ) : Option γ := match o with
 | none => none
 | some (a, b) => f a b
def bd3 {α β γ δ : Type} (o : Option (α × β × γ)) (f : α → β → γ → Option δ) : Option δ := match o with
 | none => none
 | some (a, b, c) => f a b c
def el {σ ρ β : Type} (f : σ → Option β) (g : ρ → Option β) : Sum σ ρ → Option β
 | .inl s => f s
 | .inr r => g r
@[reducible] def un2 {α β δ : Type} (f : α → β → δ) : α × β → δ | (a, b) => f a b
@[reducible] def un3 {α β γ δ : Type} (f : α → β → γ → δ) : α × β × γ → δ | (a, b, c) => f a b c
@[reducible] def un5 {α β γ ε ζ δ : Type} (f : α → β → γ → ε → ζ → δ) : α × β × γ × ε × ζ → δ | (a, b, c, d, e) => f a b c d e
def idx {α : Type} (l : List α) (i : Int) : Option α := if 0 ≤ i then l[i.toNat]? else none
def slc {α : Type} (l : List α) (a b : Int) : Option (List α) := if 0 ≤ a ∧ a ≤ b ∧ b ≤ l.length then some ((l.take b.toNat).drop a.toNat) else none
def psh {α : Type} (l : List α) (x : α) : Option (List α) := if l.length < LIM then some (l ++ [x]) else none
def app {α : Type} (l m : List α) : Option (List α) := if l.length + m.length ≤ LIM then some (l ++ m) else none
def cat (s t : Str) : Option Str := if s.b.length + t.b.length ≤ LIM then some ⟨s.b ++ t.b⟩ else none
def upd {α : Type} (l : List α) (i : Int) (x : α) : Option (List α) := if 0 ≤ i ∧ i < l.length then some (l.set i.toNat x) else none
def mk0 {α : Type} (z : α) (n : Int) : Option (List α) := if 0 ≤ n ∧ n ≤ LIM then some (List.replicate n.toNat z) else none
def nn (y : Int) : Option Unit := if 0 ≤ y then some () else none
section
variable {α β γ δ ε : Type}
theorem bdS {o : Option α} {f : α → Option β} {r : β} (h : bd o f = some r) : ∃ a, o = some a ∧ f a = some r := by
 cases o with
 | none => cases h
 | some a => exact ⟨a, rfl, h⟩
theorem a_y {o : Option (α × β)} {f : α → β → Option γ} {r : γ} (h : bd2 o f = some r) : ∃ a b, o = some (a, b) ∧ f a b = some r := by
 cases o with
 | none => cases h
 | some x => exact ⟨x.1, x.2, rfl, h⟩
theorem O_ {o : Option (α × β × γ)} {f : α → β → γ → Option δ} {r : δ} (h : bd3 o f = some r) : ∃ a b c, o = some (a, b, c) ∧ f a b c = some r := by
 cases o with
 | none => cases h
 | some x => exact ⟨x.1, x.2.1, x.2.2, rfl, h⟩
theorem ifT {c : Bool} {x y z : α} (h : (if c = true then x else y) = z) (hc : c = true) : x = z := by rw [if_pos hc] at h; exact h
theorem ifF {c : Bool} {x y z : α} (h : (if c = true then x else y) = z) (hc : c = false) : y = z := by rw [if_neg (by rw [hc]; simp)] at h; exact h
theorem elL {σ ρ β : Type} {f : σ → Option β} {g : ρ → Option β} {s : σ} {r : β} (h : el f g (.inl s) = some r) : f s = some r := h
theorem elR {σ ρ β : Type} {f : σ → Option β} {g : ρ → Option β} {s : ρ} {r : β} (h : el f g (.inr s) = some r) : g s = some r := h
theorem som {a b : α} (h : some a = some b) : a = b := Option.some.inj h
@[simp] theorem bd_some (a : α) (f : α → Option β) : bd (some a) f = f a := rfl
@[simp] theorem bd2_some (a : α) (b : β) (f : α → β → Option γ) : bd2 (some (a, b)) f = f a b := rfl
@[simp] theorem bd3_some (a : α) (b : β) (c : γ) (f : α → β → γ → Option δ) : bd3 (some (a, b, c)) f = f a b c := rfl
@[simp] theorem el_inl {σ ρ β : Type} (f : σ → Option β) (g : ρ → Option β) (s : σ) : el f g (.inl s) = f s := rfl
@[simp] theorem el_inr {σ ρ β : Type} (f : σ → Option β) (g : ρ → Option β) (r : ρ) : el f g (.inr r) = g r := rfl
end
theorem b_A {α : Type} {l : List α} {i : Int} {x : α} (h : idx l i = some x) : 0 ≤ i ∧ l[i.toNat]? = some x ∧ i < l.length := by
 unfold idx at h
 split at h
 ·rename_i h0
  refine ⟨h0, h, ?_⟩
  have := (List.getElem?_eq_some_iff.1 h).1
  omega
 ·cases h
theorem o_y {α : Type} (l : List α) (k : Nat) : idx l (k : Int) = l[k]? := by unfold idx; rw [if_pos (by omega)]; rfl
theorem e_o (x : Int) : inI (IntKind.i64.wrap x) := by rw [IntKind.wrap_i64]; unfold inI; omega
theorem i_X (x y : Int) : inI (c_ x y) := e_o _
theorem i_Y (x y : Int) : inI (y_ x y) := e_o _
theorem l_2 (x y : Int) : inI (c_b x y) := e_o _
theorem o_z (x : Int) : inI (e_t x) := e_o _
theorem b_2 {n : Nat} (h : n ≤ LEN) : inI (n : Int) := by unfold inI; have := H_; omega
theorem i_Z {x y : Int} (h : inI x) : inI (a_C x y) := by
 unfold a_C inI at *
 have h3 := Int.natAbs_tmod x y
 have h4 : (x.tmod y).natAbs ≤ x.natAbs := by rw [h3]; exact Nat.mod_le _ _
 rcases Int.le_total 0 x with h0 | h0
 ·have h1 := Int.tmod_nonneg y h0
  omega
 ·have h1 := Int.tmod_nonneg y (show 0 ≤ -x by omega)
  rw [Int.neg_tmod] at h1
  omega
theorem f_k : LIM ≤ LEN := by decide
theorem o_A (c : UInt8) : IntKind.i64.wrap (byteI c) = byteI c := by
 rw [IntKind.wrap_i64]; have := c.toNat_lt; unfold byteI; omega
theorem iinc {k n : Nat} (h : k < n) (hn : n ≤ 9223372036854775807) : c_ (k : Int) 1 = ((k + 1 : Nat) : Int) := by
 unfold c_; rw [IntKind.wrap_i64]; have := H_; omega
theorem R_ {k n : Nat} (hk : k < n) (hc : decide ((k : Int) < (n : Int)) = false) : False := by
 simp at hc; omega
theorem S_ {n : Nat} (hc : decide ((n : Int) < (n : Int)) = true) : False := by
 simp at hc
section
variable {P : Program} {N : Nat} {ops : Array Oper} {K : Act → World → Prop} {Q : Exit → Act → World → Prop} {e : Env} {w : World} {rest : List Oper} {T : Nat} {p : a_w} {X : Nat → Prop}
variable {d : Nat} {op : Op} {ty : TypeId} {pos : String} {aft : Array Edge}
theorem R {v : Value} (hf : Nat.blt d N = true) (h : Rd noX P N ⟨some d, op, ty, pos, aft, none⟩ e w v) (k : WL P N ops K Q rest ((d, v) :: e) w) : WL P N ops K Q (⟨some d, op, ty, pos, aft, none⟩ :: rest) e w := WL_rd rfl hf h k
theorem E {S : Value → World → Prop} (hf : Nat.blt d N = true) (h : Ef P N ⟨some d, op, ty, pos, aft, none⟩ e w S) (k : ∀ v w', S v w' → WL P N ops K Q rest ((d, v) :: e) w') : WL P N ops K Q (⟨some d, op, ty, pos, aft, none⟩ :: rest) e w := WL_ef rfl hf h k
theorem E0 {S : Value → World → Prop} (h : Ef P N ⟨none, op, ty, pos, aft, none⟩ e w S) (k : ∀ v w', S v w' → WL P N ops K Q rest e w') : WL P N ops K Q (⟨none, op, ty, pos, aft, none⟩ :: rest) e w := WL_ef rfl rfl h k
section guards
variable {j gd : Nat} {want b : Bool}
theorem Rg {v : Value} (hj : (ops[j]?).bind (·.dst) = some gd) (hb : q_ e gd = some (.bool b)) (hw : b = want) (hf : Nat.blt d N = true) (h : Rd noX P N ⟨some d, op, ty, pos, aft, some (j, want)⟩ e w v) (k : WL P N ops K Q rest ((d, v) :: e) w) : WL P N ops K Q (⟨some d, op, ty, pos, aft, some (j, want)⟩ :: rest) e w :=
 n_Z rfl hj (hw ▸ hb) hf h k
theorem Eg {S : Value → World → Prop} (hj : (ops[j]?).bind (·.dst) = some gd) (hb : q_ e gd = some (.bool b)) (hw : b = want) (hf : Nat.blt d N = true) (h : Ef P N ⟨some d, op, ty, pos, aft, some (j, want)⟩ e w S) (k : ∀ v w', S v w' → WL P N ops K Q rest ((d, v) :: e) w') : WL P N ops K Q (⟨some d, op, ty, pos, aft, some (j, want)⟩ :: rest) e w :=
 o_0 rfl hj (hw ▸ hb) hf h k
theorem Ng (hj : (ops[j]?).bind (·.dst) = some gd) (hb : q_ e gd = some (.bool b)) (hw : b = !want) (hf : Nat.blt d N = true) (k : WL P N ops K Q rest ((d, undef) :: e) w) : WL P N ops K Q (⟨some d, op, ty, pos, aft, some (j, want)⟩ :: rest) e w :=
 o_1 rfl hj (hw ▸ hb) hf k
theorem Nu (hj : (ops[j]?).bind (·.dst) = some gd) (hb : q_ e gd = some undef) (hf : Nat.blt d N = true) (k : WL P N ops K Q rest ((d, undef) :: e) w) : WL P N ops K Q (⟨some d, op, ty, pos, aft, some (j, want)⟩ :: rest) e w :=
 o_2 rfl hj hb hf k
end guards
theorem dR {i : Nat} {v : Value} (ho : ops[i]? = some ⟨some d, op, ty, pos, aft, none⟩) (hf : Nat.blt d N = true) (h : Rd X P N ⟨some d, op, ty, pos, aft, none⟩ e w v) (k : PR X P N ops T K p ((d, v) :: e) w) : PR X P N ops T K (.rd i p) e w := PR_rd ho rfl hf h k
theorem dE {i : Nat} {S : Value → World → Prop} (ho : ops[i]? = some ⟨some d, op, ty, pos, aft, none⟩) (hf : Nat.blt d N = true) (h : Ef P N ⟨some d, op, ty, pos, aft, none⟩ e w S) (hT : T.testBit i = true ∨ ∀ v w', S v w' → Chg X w w') (k : ∀ v w', S v w' → PR X P N ops T K p ((d, v) :: e) w') : PR X P N ops T K (.ef i p) e w := PR_ef ho rfl hf h hT k
theorem dE0 {i : Nat} {S : Value → World → Prop} (ho : ops[i]? = some ⟨none, op, ty, pos, aft, none⟩) (h : Ef P N ⟨none, op, ty, pos, aft, none⟩ e w S) (hT : T.testBit i = true ∨ ∀ v w', S v w' → Chg X w w') (k : ∀ v w', S v w' → PR X P N ops T K p e w') : PR X P N ops T K (.ef i p) e w := PR_ef ho rfl rfl h hT k
section guards
variable {i j gd : Nat} {want b : Bool}
theorem dRg {v : Value} (ho : ops[i]? = some ⟨some d, op, ty, pos, aft, some (j, want)⟩) (hj : (ops[j]?).bind (·.dst) = some gd) (hb : q_ e gd = some (.bool b)) (hw : b = want) (hf : Nat.blt d N = true) (h : Rd X P N ⟨some d, op, ty, pos, aft, some (j, want)⟩ e w v) (k : PR X P N ops T K p ((d, v) :: e) w) : PR X P N ops T K (.rd i p) e w :=
 o_9 ho rfl hj (hw ▸ hb) hf h k
theorem dRn (ho : ops[i]? = some ⟨some d, op, ty, pos, aft, some (j, want)⟩) (hj : (ops[j]?).bind (·.dst) = some gd) (hb : q_ e gd = some (.bool b)) (hw : b = !want) (hf : Nat.blt d N = true) (k : PR X P N ops T K p ((d, undef) :: e) w) : PR X P N ops T K (.rd i p) e w :=
 o_a ho rfl hj (hw ▸ hb) hf k
theorem dRu (ho : ops[i]? = some ⟨some d, op, ty, pos, aft, some (j, want)⟩) (hj : (ops[j]?).bind (·.dst) = some gd) (hb : q_ e gd = some undef) (hf : Nat.blt d N = true) (k : PR X P N ops T K p ((d, undef) :: e) w) : PR X P N ops T K (.rd i p) e w :=
 o_b ho rfl hj hb hf k
theorem dEg {S : Value → World → Prop} (ho : ops[i]? = some ⟨some d, op, ty, pos, aft, some (j, want)⟩) (hj : (ops[j]?).bind (·.dst) = some gd) (hb : q_ e gd = some (.bool b)) (hw : b = want) (hf : Nat.blt d N = true) (h : Ef P N ⟨some d, op, ty, pos, aft, some (j, want)⟩ e w S) (hT : T.testBit i = true ∨ ∀ v w', S v w' → Chg X w w') (k : ∀ v w', S v w' → PR X P N ops T K p ((d, v) :: e) w') : PR X P N ops T K (.ef i p) e w :=
 o_c ho rfl hj (hw ▸ hb) hf h hT k
theorem dEn (ho : ops[i]? = some ⟨some d, op, ty, pos, aft, some (j, want)⟩) (hj : (ops[j]?).bind (·.dst) = some gd) (hb : q_ e gd = some (.bool b)) (hw : b = !want) (hf : Nat.blt d N = true) (k : PR X P N ops T K p ((d, undef) :: e) w) : PR X P N ops T K (.ef i p) e w :=
 o_d ho rfl hj (hw ▸ hb) hf k
theorem dEu (ho : ops[i]? = some ⟨some d, op, ty, pos, aft, some (j, want)⟩) (hj : (ops[j]?).bind (·.dst) = some gd) (hb : q_ e gd = some undef) (hf : Nat.blt d N = true) (k : PR X P N ops T K p ((d, undef) :: e) w) : PR X P N ops T K (.ef i p) e w :=
 o_e ho rfl hj hb hf k
end guards
theorem j_0 {c : Code} {K' : Act → World → Prop} (J : Act → World → Prop) (h1 : WC P N c J Q e w) (h2 : ∀ a w', J a w' → K' a w') : WC P N c K' Q e w := n_Y h2 (fun _ _ _ h => h) h1
end
section
variable {α : Type} [Dat α] {w w' : World} {B : Zone} {v : Value} {l : List α} {S : List Nat} {X : Nat → Prop}
theorem a_.rep (h : a_ w B v l) : Dat.rep w B [v] l := ⟨v, rfl, h⟩
theorem a_.of (h : Dat.rep w B [v] l) : a_ w B v l := by
 obtain ⟨v', he, h⟩ := h
 obtain rfl := (List.cons.inj he).1
 exact h
theorem a_.ext (h : a_ w B v l) (hb : Below w.heap.size w w') : a_ w' B v l := a_.of (p_d h.rep hb)
theorem a_.chg (h : a_ w B v l) (hc : Chg X w w') (hx : ∀ k, B k → ¬ X k) : a_ w' B v l := a_.of (p_e h.rep hc hx)
theorem b_.own (h : b_ w S v l) : Dat.own w S [v] l := ⟨v, rfl, h⟩
theorem b_.of (h : Dat.own w S [v] l) : b_ w S v l := by
 obtain ⟨v', he, h⟩ := h
 obtain rfl := (List.cons.inj he).1
 exact h
theorem b_.ext (h : b_ w S v l) (hb : Below w.heap.size w w') : b_ w' S v l := b_.of (h_i h.own hb)
theorem b_.chg (h : b_ w S v l) (hc : Chg X w w') (hx : ∀ k ∈ S, ¬ X k) : b_ w' S v l := b_.of (d_X h.own hc hx)
theorem b_.lt (h : b_ w S v l) : ∀ k ∈ S, k < w.heap.size := own_lt h.own
theorem b_.rep (h : b_ w S v l) : a_ w w.heap.size v l := a_.of (own_rep' h.own)
theorem b_.len (h : b_ w S v l) : l.length ≤ LEN := by
 rcases h with ⟨_, rfl, _⟩ | ⟨g, c, cur, Ss, _, _, h3, _⟩
 ·exact Nat.zero_le _
 ·exact h3
theorem a_.len (h : a_ w B v l) : l.length ≤ LEN := by obtain ⟨ao, c, _, _, h, _⟩ := h; exact h
theorem b_.shape (h : b_ w S v l) : ∃ ao c, v = .slice ao l.length c := by
 rcases h with ⟨rfl, rfl, _⟩ | ⟨g, c, cur, Ss, rfl, _⟩
 ·exact ⟨none, 0, rfl⟩
 ·exact ⟨_, c, rfl⟩
theorem a_.shape (h : a_ w B v l) : ∃ ao c, v = .slice ao l.length c := by obtain ⟨ao, c, h, _⟩ := h; exact ⟨ao, c, h⟩
theorem a_.at {ao : Option Addr} {c n : Nat} {i : Int} {x : α} (h : a_ w B (.slice ao n c) l) (hx : idx l i = some x) : ∃ b o cs, ao = some ⟨b, o, none⟩ ∧ 0 ≤ i ∧ i < (n : Int) ∧ M_ w b (o + i.toNat * sz α) cs ∧ Dat.rep w B cs x := by
 obtain ⟨h0, h1, h2⟩ := b_A hx
 obtain ⟨ao', c', he, _, _, hn, hp⟩ := h
 simp only [Value.slice.injEq] at he
 obtain ⟨rfl, rfl, rfl⟩ := he
 cases ao with
 | none => rw [hn rfl] at h1; simp at h1
 | some p =>
  obtain ⟨k0, _, k3⟩ := hp p rfl
  have k1 := k0 (by rintro rfl; simp at h1)
  obtain ⟨cs, g1, g2⟩ := k3 _ _ h1
  exact ⟨p.block, p.off, cs, by cases p; simp_all, h0, h2, g1, g2⟩
end
theorem M_.ext {w w' : World} {b o : Nat} {cs : List Value} (h : M_ w b o cs) (hb : Below w.heap.size w w') : M_ w' b o cs := fun j v hv => (hb.cell (World.block_lt_of_cell? w _ (h j v hv))).trans (h j v hv)
theorem M_.chg {X : Nat → Prop} {w w' : World} {b o : Nat} {cs : List Value} (h : M_ w b o cs) (hc : Chg X w w') (hx : ¬ X b) : M_ w' b o cs := fun j v hv => by
 have := h j v hv
 rw [← this]
 exact World.cell?_of_block (w := w) (hc.block b (World.block_lt_of_cell? w _ this) hx)
theorem M_.at {w : World} {b o j : Nat} {cs : List Value} {v : Value} (h : M_ w b o cs) (hv : cs[j]? = some v) : w.cell? ⟨b, o + j, none⟩ = some v := h j v hv
theorem Blk.at {w : World} {g i : Nat} {l : List Value} {v : Value} (h : Blk w g l) (hv : l[i]? = some v) : w.cell? ⟨g, i, none⟩ = some v := by rw [h.cell, hv]
theorem Blk.row {w : World} {g : Nat} {l : List Value} (h : Blk w g l) (o n : Nat) {vs : List Value} (hv : (l.drop o).take n = vs) : M_ w g o vs := by subst hv; exact h.cells o n
theorem Blk.all {w : World} {g : Nat} {l : List Value} (h : Blk w g l) : M_ w g 0 l := fun j v hv => by rw [Nat.zero_add, h.cell]; exact hv
theorem Chg.comp {X Y : Nat → Prop} {a b c : World} (h : Chg X a b) (h' : Chg Y b c) (hy : ∀ k, k < a.heap.size → Y k → X k) : Chg X a c :=
 ⟨h'.os.trans h.os, h'.tape.trans h.tape, h'.output.trans h.output, Nat.le_trans h.size h'.size, fun k hk hx => (h'.block k (Nat.lt_of_lt_of_le hk h.size) (fun y => hx (hy k hk y))).trans (h.block k hk hx)⟩
theorem Chg.ext {X : Nat → Prop} {a b c : World} (h : Chg X a b) (h' : Below b.heap.size b c) : Chg X a c := h.comp (Vw.Below.chg h' (fun _ => False)) (fun _ _ => False.elim)
theorem bup {a b c : World} (h : Below a.heap.size a b) (h' : Below b.heap.size b c) : Below a.heap.size a c := h.trans (h'.mono h.size)
theorem bchg {X : Nat → Prop} {a b c : World} (h : Below a.heap.size a b) (h' : Chg X b c) (hx : ∀ k, k < a.heap.size → ¬ X k) : Below a.heap.size a c := h.trans (h'.below h.size hx)
theorem j_1 (a : World) : Below a.heap.size a a := Below.refl _ _
end Go.Vw
set_option linter.unusedVariables false
namespace Go.Vw
open Go.RowKit Dat
theorem d_R (c : UInt8) : byteI c < 256 := by have := c.toNat_lt; unfold byteI; omega
theorem d_S (c : UInt8) : 0 ≤ byteI c := by unfold byteI; omega
def mkB (x : Int) : UInt8 := UInt8.ofNat (IntKind.u8.wrap x).toNat
theorem o_B (x : Int) : byteI (mkB x) = IntKind.u8.wrap x := by
 unfold byteI mkB
 have h : 0 ≤ IntKind.u8.wrap x ∧ IntKind.u8.wrap x < 256 := by rw [IntKind.wrap_u8]; omega
 rw [UInt8.toNat_ofNat']
 omega
theorem c_7 (c : UInt8) : inI (byteI c) := by unfold inI; have := d_R c; have := d_S c; omega
theorem inI_of (x : Int) (h : (decide (-9223372036854775808 ≤ x) && decide (x ≤ 9223372036854775807)) = true) : inI x := by
 simp at h; exact h
section
variable {X : Nat → Prop} {P : Program} {N : Nat} {e : Env} {w : World} {dst : Option Tmp} {ty : TypeId} {pos : String} {aft : Array Edge} {gd : Option (Nat × Bool)} {x y z : Operand} {T T' : Nat}
theorem b_3 {S D : Nat} {k : IntKind} {p : Int} {d : TypeDesc} (hS : P.underlying S = some d) (hD : P.underlying D = some (.int .u8)) (h : ev e x = some (.int k p)) : Rd X P N ⟨dst, .convert S D x, ty, pos, aft, gd⟩ e w (vU (byteI (mkB p))) := by
 rw [o_B]; exact l_g hS hD h
theorem b_4 {S D : Nat} {c : UInt8} {d : TypeDesc} (hS : P.underlying S = some d) (hD : P.underlying D = some (.int .i64)) (h : ev e x = some (vU (byteI c))) : Rd X P N ⟨dst, .convert S D x, ty, pos, aft, gd⟩ e w (vI (byteI c)) := by
 have := l_g (X := X) (P := P) (N := N) (w := w) (dst := dst) (ty := ty) (pos := pos) (aft := aft) (gd := gd) hS hD h
 rwa [o_A] at this
theorem j_2 {k n : Nat} (hk : k < n) (hn : n ≤ 9223372036854775807) (h1 : ev e x = some (vI (k : Int))) (h2 : ev e y = some (vI 1)) : Rd X P N ⟨dst, .binOp .add T x y T', ty, pos, aft, gd⟩ e w (vI ((k + 1 : Nat) : Int)) := by
 rw [← iinc hk hn]; exact h_n h1 h2
end
section
variable {w : World} {B : Zone} {S : List Nat} {cs : List Value}
theorem a_7 {x : Int} (h : rep w B cs x) : cs = [vI x] ∧ inI x := by obtain ⟨v, rfl, rfl, h⟩ := h; exact ⟨rfl, h⟩
theorem o_C {x : Bool} (h : rep w B cs x) : cs = [vB x] := by obtain ⟨v, rfl, rfl⟩ := h; rfl
theorem h_a {x : UInt8} (h : rep w B cs x) : cs = [vU (byteI x)] := by obtain ⟨v, rfl, rfl⟩ := h; rfl
theorem b_J {x : Str} (h : rep w B cs x) : cs = [x.v] ∧ x.b.length ≤ LEN := by obtain ⟨v, rfl, rfl, h⟩ := h; exact ⟨rfl, h⟩
theorem o_D {α : Type} [Dat α] {l : List α} (h : rep w B cs l) : ∃ ao c, cs = [.slice ao l.length c] ∧ a_ w B (.slice ao l.length c) l := by
 obtain ⟨v, rfl, h⟩ := h
 obtain ⟨ao, c, rfl⟩ := a_.shape h
 exact ⟨ao, c, rfl, h⟩
theorem Int_mk {x : Int} (h : inI x) : rep w B [vI x] x := ⟨_, rfl, rfl, h⟩
theorem Str_mk {x : Str} (h : x.b.length ≤ LEN) : rep w B [x.v] x := ⟨_, rfl, rfl, h⟩
theorem c_C {x : Int} (h : inI x) : own w [] [vI x] x := ⟨rfl, _, rfl, rfl, h⟩
theorem o_E {x : Bool} : own w [] [vB x] x := ⟨rfl, _, rfl, rfl⟩
theorem a_z {x : UInt8} : own w [] [vU (byteI x)] x := ⟨rfl, _, rfl, rfl⟩
theorem d_0 {x : Str} (h : x.b.length ≤ LEN) : own w [] [x.v] x := ⟨rfl, _, rfl, rfl, h⟩
end
theorem c_8 {α β : Type} [Dat α] [Dat β] {w : World} {B : Zone} {c d : List Value} {x : α} {y : β} (h1 : rep w B c x) (h2 : rep w B d y) : rep w B (c ++ d) (x, y) := ⟨c, d, rfl, h1, h2⟩
theorem c_D {α β : Type} [Dat α] [Dat β] {w : World} {S1 S2 : List Nat} {c d : List Value} {x : α} {y : β} (h1 : own w S1 c x) (h2 : own w S2 d y) : own w (S1 ++ S2) (c ++ d) (x, y) := ⟨c, d, S1, S2, rfl, rfl, h1, h2⟩
theorem j_3 {α : Type} [Dat α] (w : World) : b_ w [] (.slice none 0 0) ([] : List α) := .inl ⟨rfl, rfl, rfl⟩
theorem o_F {α : Type} [Dat α] {w w' : World} (h : New w w' []) : b_ w' [w.heap.size] (.slice (some ⟨w.heap.size, 0, none⟩) 0 0) ([] : List α) :=
 .inr ⟨w.heap.size, 0, [], [], rfl, Nat.le_refl _, Nat.zero_le _, h.blk, by simp, rfl, rfl, fun i x Si hx => by simp at hx⟩
theorem j_4 {l : List Value} (h : l.all Value.oneCell' = true) : ∀ u ∈ l, u.oneCell' = true := fun u hu => List.all_eq_true.1 h u hu
theorem b_r {α : Type} [Dat α] {w w' : World} {cs : List Value} {Si : List Nat} {x : α} (h : New w w' cs) (ho : own w Si cs x) : b_ w' (w.heap.size :: Si) (.slice (some ⟨w.heap.size, 0, none⟩) 1 1) [x] := by
 have hl := rep_len (own_rep' ho)
 refine .inr ⟨w.heap.size, 1, cs, [Si], rfl, Nat.le_refl _, by simp [LEN], h.blk, by simp [hl], by simp, rfl, fun i y Sj hy hS => ?_⟩
 cases i with
 | zero =>
  simp at hy hS
  subst hy hS
  have := h_q cs _ hl
  unfold W_ at this
  rw [this]
  exact h_i ho h.below
 | succ i => simp at hy
theorem pshS {α : Type} {l : List α} {x : α} {m : List α} (h : psh l x = some m) : m = l ++ [x] ∧ l.length < LIM := by
 unfold psh at h
 split at h
 ·rename_i hl; exact ⟨(Option.some.inj h).symm, hl⟩
 ·cases h
theorem appS {α : Type} {l x m : List α} (h : app l x = some m) : m = l ++ x ∧ l.length + x.length ≤ LIM := by
 unfold app at h
 split at h
 ·rename_i hl; exact ⟨(Option.some.inj h).symm, hl⟩
 ·cases h
theorem catS {s t u : Str} (h : cat s t = some u) : u = ⟨s.b ++ t.b⟩ ∧ s.b.length + t.b.length ≤ LEN := by
 unfold cat at h
 split at h
 ·rename_i hl; exact ⟨(Option.some.inj h).symm, Nat.le_trans hl f_k⟩
 ·cases h
theorem d_T {s t u : Str} (h : cat s t = some u) : u.b.length ≤ LEN := by
 obtain ⟨rfl, h'⟩ := catS h; simpa using h'
theorem j_5 {n b : Nat} (h : n ≤ LIM) (hb : Nat.ble b 32768 = true) : n * b ≤ 140737488355328 := by
 have h2 : b ≤ 32768 := Nat.le_of_ble_eq_true hb
 calc n * b ≤ LIM * 32768 := Nat.mul_le_mul h h2
  _ = 140737488355328 := by decide
section
variable {X : Nat → Prop} {P : Program} {N : Nat} {e : Env} {w : World} {dst : Option Tmp} {ty : TypeId} {pos : String} {aft : Array Edge} {gd : Option (Nat × Bool)} {x y z : Operand} {T T' : Nat}
theorem o_G {α : Type} [Dat α] {E bytes : Nat} {zz : Value} (hE : El P T E (sz α) bytes zz) {S Si : List Nat} {sv : Value} {l m : List α} {v : α} {g : Nat} {cs : List Value} (hm : psh l v = some m) (hx : ev e x = some sv) (hy : ev e y = some (.slice (some ⟨g, 0, none⟩) 1 1))
  (ho : b_ w S sv l) (hN : S.Nodup) (hB : Blk w g cs) (hv : own w Si cs v) (hD : ∀ k ∈ Si, k ∉ S) (hSi : Si.Nodup) :
  Ef P N ⟨dst, .call { callee := .builtin .append, args := #[x, y], argTypes := #[T, T] }, ty, pos, aft, gd⟩ e w (fun v' w' => ∃ S' ao c, v' = .slice ao m.length c ∧ b_ w' S' (.slice ao m.length c) m ∧ S'.Nodup ∧ Chg (· ∈ S) w w' ∧ (∀ k ∈ S', k ∈ S ∨ k ∈ Si ∨ k = w.heap.size)) := by
 obtain ⟨rfl, hl⟩ := pshS hm
 have hcs := rep_len (own_rep' hv)
 have h := l_1 (P := P) (N := N) (dst := dst) (ty := ty) (pos := pos) (aft := aft) (gd := gd) hE hx ho hN (p := ⟨g, 0, none⟩) (c' := 1) (news := cs) (xs := [v]) (Ts := [Si]) hy rfl (fun _ => rfl) (by simp [hcs]) hB.all rfl
  (fun i a Ti ha hT => by
   cases i with
   | zero =>
    simp at ha hT
    subst ha hT
    rw [h_q cs _ hcs]
    exact hv
   | succ i => simp at ha) (by simpa using hD) (by simpa using hSi) (by have := f_k; simp; omega) (j_5 (by simp; omega) hE.sm)
 constructor
 intro a ha Q
 refine Oper.wp_mono ?_ (h.run a ha Q)
 rintro a' w' ⟨v', rfl, S', h1, h2, h3, h4⟩
 obtain ⟨ao, c, rfl⟩ := b_.shape h1
 exact ⟨_, rfl, S', ao, c, rfl, h1, h2, h3, by simpa using h4⟩
theorem o_H {α : Type} [Dat α] [a_g α] {E bytes : Nat} {zz : Value} (hE : El P T E (sz α) bytes zz) {S : List Nat} {sv : Value} {l m xs : List α} {B : Zone} {c0 : Nat} {ao0 : Option Addr} (hm : app l xs = some m) (hx : ev e x = some sv) (hy : ev e y = some (.slice ao0 xs.length c0))
  (ho : b_ w S sv l) (hN : S.Nodup) (hr : a_ w B (.slice ao0 xs.length c0) xs) :
  Ef P N ⟨dst, .call { callee := .builtin .append, args := #[x, y], argTypes := #[T, T] }, ty, pos, aft, gd⟩ e w (fun v' w' => ∃ S' ao c, v' = .slice ao m.length c ∧ b_ w' S' (.slice ao m.length c) m ∧ S'.Nodup ∧ Chg (· ∈ S) w w' ∧ (∀ k ∈ S', k ∈ S ∨ k ∈ ([] : List Nat) ∨ k = w.heap.size)) := by
 obtain ⟨rfl, hl⟩ := appS hm
 obtain ⟨ao, c, he, h1, h2, h3, h4⟩ := hr
 simp only [Value.slice.injEq, true_and] at he
 obtain ⟨rfl, rfl⟩ := he
 cases ao0 with
 | none =>
  obtain rfl := h3 rfl
  constructor
  intro a ha Q
  obtain ⟨ao, c, rfl⟩ := b_.shape ho
  have hc : l.length ≤ c := by
   rcases ho with ⟨h, rfl, _⟩ | ⟨_, _, _, _, h, hh, _⟩ <;> cases h
   ·exact Nat.le_refl _
   ·exact hh
  have h0 : c0 = c0 := rfl
  unfold Oper.wp
  obtain ⟨i, hi, hz, _, _⟩ := info_parts hE.info
  have hr : (execOp a.eval ⟨dst, .call { callee := .builtin .append, args := #[x, y], argTypes := #[T, T] }, ty, pos, aft, gd⟩).run P w = .ok (.value (.slice ao l.length c)) w := by
   have : (Builtin.append_ #[T, T] ty #[.slice ao l.length c, .slice none 0 c0]).run P w = .ok (.slice ao l.length c) w := by
    cases ao <;> simp [Builtin.append_, run_underlying hE.sl, sizeOf, typeInfo, hi, Builtin.lenOf, Builtin.firstCells, hc, storeCells]
   have hy' : a.eval y = .slice none 0 c0 := ha.ev hy
   simp [execOp, resolve, invoke, builtin, ha.ev hx, hy', this]
  rw [hr]
  refine ⟨_, rfl, S, ao, c, by simp, by simpa using ho, hN, Chg.refl _ _, fun k hk => .inl hk⟩
 | some p =>
  obtain ⟨k1, _, k3⟩ := h4 p rfl
  obtain ⟨news, g1, g2, g3⟩ := l_h xs k3
  have h := l_1 (P := P) (N := N) (dst := dst) (ty := ty) (pos := pos) (aft := aft) (gd := gd) hE hx ho hN (p := p) (c' := c0) (news := news) (xs := xs) (Ts := List.replicate xs.length []) hy rfl (fun hne => k1 (fun hx => hne (List.eq_nil_of_length_eq_zero (by rw [g1, hx]; simp)))) g1 g2 (by simp)
   (fun i a Ti ha hT => by
    have : Ti = [] := by
     rw [List.getElem?_replicate] at hT
     split at hT <;> simp at hT
     first | exact hT | exact hT.symm
    subst this
    exact a_g.flat (g3 i a ha)) (by simp) (by simp) (by have := f_k; omega) (j_5 hl hE.sm)
  constructor
  intro a ha Q
  refine Oper.wp_mono ?_ (h.run a ha Q)
  rintro a' w' ⟨v', rfl, S', h1, h2, h3, h4⟩
  obtain ⟨ao, c, rfl⟩ := b_.shape h1
  exact ⟨_, rfl, S', ao, c, rfl, h1, h2, h3, by simpa using h4⟩
def evo (e : Env) (o : Option Operand) (d b : Int) : Prop := match o with
 | none => b = d
 | some x => ev e x = some (vI b)
theorem e_p {α : Type} {l m : List α} {a b : Int} (h : slc l a b = some m) : 0 ≤ a ∧ a ≤ b ∧ b ≤ l.length ∧ m = (l.take b.toNat).drop a.toNat := by
 unfold slc at h
 split at h
 ·rename_i hl; exact ⟨hl.1, hl.2.1, hl.2.2, (Option.some.inj h).symm⟩
 ·cases h
theorem l_3 {α : Type} {l m : List α} {a b : Int} (h : slc l a b = some m) : (m.length : Int) = b - a := by
 obtain ⟨h1, h2, h3, rfl⟩ := e_p h
 simp; omega
theorem o_I {α : Type} [Dat α] {B : Zone} {n c sz' : Nat} {ao : Option Addr} {l m : List α} {a b mx : Int} (hsz : sz' = sz α) (h : a_ w B (.slice ao n c) l) (hs : slc l a b = some m) (h1 : b ≤ mx) (h2 : mx ≤ c) :
  a_ w B (.slice (if mx.toNat = a.toNat then ao else ao.map (·.add (a.toNat * sz'))) m.length (mx.toNat - a.toNat)) m := by
 subst hsz
 obtain ⟨g1, g2, g3, rfl⟩ := e_p hs
 obtain ⟨ao', c', he, k1, k2, k3, k4⟩ := h
 simp only [Value.slice.injEq] at he
 obtain ⟨rfl, rfl, rfl⟩ := he
 refine ⟨_, _, rfl, by simp; omega, by simp; omega, fun hn => ?_, fun p hp => ?_⟩
 ·have : ao = none := by
   split at hn
   ·exact hn
   ·simpa using hn
  rw [k3 this]
  simp
 ·by_cases hmx : mx.toNat = a.toNat
  ·rw [if_pos hmx] at hp
   obtain ⟨j1, j2, j3⟩ := k4 p hp
   have hnil : (l.take b.toNat).drop a.toNat = [] := by
    apply List.drop_of_length_le; simp; omega
   rw [hnil]
   exact ⟨fun h => absurd rfl h, fun h => absurd rfl h, fun i x hx => by simp at hx⟩
  ·rw [if_neg hmx] at hp
   cases ao with
   | none => simp at hp
   | some q =>
    simp only [Option.map_some, Option.some.injEq] at hp
    subst hp
    obtain ⟨j1, j2, j3⟩ := k4 q rfl
    by_cases hemp : (l.take b.toNat).drop a.toNat = []
    ·rw [hemp]
     exact ⟨fun h => absurd rfl h, fun h => absurd rfl h, fun i x hx => by simp at hx⟩
    have j1' := j1 (fun h => hemp (by rw [h]; simp))
    have hq : q = ⟨q.block, q.off, none⟩ := by cases q; simp_all
    rw [hq, Addr.add_lit]
    refine ⟨fun _ => rfl, fun hne => j2 (fun h => hne (by rw [h]; simp)), fun i x hx => ?_⟩
    rw [List.getElem?_drop, List.getElem?_take] at hx
    split at hx
    ·obtain ⟨cs, e1, e2⟩ := j3 _ _ hx
     refine ⟨cs, ?_, e2⟩
     have : q.off + a.toNat * sz α + i * sz α = q.off + (a.toNat + i) * sz α := by rw [Nat.add_mul]; omega
     rw [this]
     exact e1
    ·cases hx
theorem o_J {α : Type} [Dat α] {B : Zone} {E n c sz' : Nat} {ao : Option Addr} {l m : List α} {a b : Int} {lo hi : Option Operand} (hT : P.underlying T = some (.slice E)) (hs : ∀ w, (sizeOf E).run P w = .ok sz' w) (hsz : sz' = sz α) (hx : ev e x = some (.slice ao n c)) (h : a_ w B (.slice ao n c) l)
  (hlo : evo e lo 0 a) (hhi : evo e hi n b) (hm : slc l a b = some m) :
  ∃ ao' c', Rd X P N ⟨dst, .slice T x lo hi none, ty, pos, aft, gd⟩ e w (.slice ao' m.length c') ∧ a_ w B (.slice ao' m.length c') m := by
 obtain ⟨g1, g2, g3, _⟩ := e_p hm
 have hml := l_3 hm
 have h' := h
 obtain ⟨ao', c', he, k1, k2, k3, k4⟩ := h'
 simp only [Value.slice.injEq] at he
 obtain ⟨rfl, rfl, rfl⟩ := he
 refine ⟨_, _, ?_, o_I (mx := (c : Int)) hsz h hm (by omega) (by omega)⟩
 intro act ha w' _
 have hsl : (Instr.sliceAt T (.slice ao l.length c) (lo.map act.eval) (hi.map act.eval) none).run P w' = .ok (.slice (if c = a.toNat then ao else ao.map (·.add (a.toNat * sz'))) (b.toNat - a.toNat) (c - a.toNat)) w' := by
  have hb : ∀ code, (Instr.sliceBound (vI b) c code).run P w' = .ok b.toNat w' := fun code => run_sliceBound w' .i64 b c code (by omega) (by omega)
  have hal : ∀ code, (Instr.sliceBound (vI a) b.toNat code).run P w' = .ok a.toNat w' := fun code => run_sliceBound w' .i64 a b.toNat code g1 (by omega)
  have hbs : (Instr.sliceBounds true l.length c (lo.map act.eval) (hi.map act.eval) none).run P w' = .ok (a.toNat, b.toNat, c) w' := by
   cases lo with
   | none =>
    obtain rfl : a = 0 := hlo
    cases hi with
    | none =>
     obtain rfl : b = (l.length : Int) := hhi
     simp [Instr.sliceBounds]
    | some y => simp [Instr.sliceBounds, ha.ev hhi, hb]
   | some u =>
    cases hi with
    | none =>
     obtain rfl : b = (l.length : Int) := hhi
     have hal' : ∀ code, (Instr.sliceBound (vI a) l.length code).run P w' = .ok a.toNat w' := fun code => by simpa using hal code
     simp [Instr.sliceBounds, ha.ev hlo, hal']
    | some y => simp [Instr.sliceBounds, ha.ev hlo, ha.ev hhi, hb, hal]
  simp [Instr.sliceAt, run_underlying hT, Instr.slice, hbs, hs]
 have hmm : b.toNat - a.toNat = m.length := by omega
 have hc1 : ((c : Int)).toNat = c := by simp
 simp only [execOp, ha.ev hx, Option.map_none, Sem.run_bind, hsl, Result.andThen_ok, hmm, hc1]
 rfl
structure d_r (P : Program) (T : Nat) (zs : List Value) (places : List (Nat × Nat)) : Prop where
 zero : ∀ w, (zeroValue T).run P w = .ok (.agg zs.toArray) w
 und : ∃ fs, P.underlying T = some (.struct fs) ∧ ∀ w, (fs.toList.mapM fun f => Functor.map (Prod.mk f.offset) (sizeOf f.type)).run P w = .ok places w
theorem o_K {zs cs : List Value} {places : List (Nat × Nat)} {parts : Array (Nat × Operand)} {vs : List (Nat × Value)} (hB : d_r P T zs places) (hv : ∀ a, Sat N e a → (parts.map fun (i, x) => (i, a.eval x)).toList = vs) (hf : Instr.fill (places.toArray[·]?) zs.toArray vs = some cs.toArray) :
  Rd X P N ⟨dst, .build T parts, ty, pos, aft, gd⟩ e w (.agg cs.toArray) := fun a ha w' _ => by
 obtain ⟨fs, hu, hpl⟩ := hB.und
 have h1 : (Instr.build T (parts.map fun (i, x) => (i, a.eval x))).run P w' = .ok (.agg cs.toArray) w' := by
  unfold Instr.build
  have hp : (fs.mapM fun f => Functor.map (Prod.mk f.offset) (sizeOf f.type) : Sem (Array (Nat × Nat))).run P w' = .ok places.toArray w' := by
   rw [Array.mapM_eq_mapM_toList]
   simp [hpl]
  have hp2 : (fs.mapM fun f => do pure (f.offset, ← sizeOf f.type) : Sem (Array (Nat × Nat))).run P w' = .ok places.toArray w' := hp
  simp only [Sem.run_bind, hB.zero, Result.andThen_ok, run_underlying hu, Value.cells, hp2, hv a ha, hf]
  rfl
 simp only [execOp, Sem.run_bind, h1, Result.andThen_ok]
 rfl
end
end Go.Vw
