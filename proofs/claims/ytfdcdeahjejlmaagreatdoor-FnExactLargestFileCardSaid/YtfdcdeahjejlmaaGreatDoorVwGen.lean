import Derived.Test.YtfdcdeahjejlmaaGreatDoorVwLoop
namespace Go.Vw
open Go.RowKit Dat
def bd {α β : Type} (o : Option α) (f : α → Option β) : Option β := match o with
 | none => none
 | some a => f a
def bd2 {α β γ : Type} (o : Option (α × β)) (f : α → β → Option γ) : Option γ := match o with
 | none => none
 | some (a, b) => f a b
def bd3 {α β γ δ : Type} (o : Option (α × β × γ)) (f : α → β → γ → Option δ) : Option δ := match o with
 | none => none
 | some (a, b, c) => f a b c
def el {σ ρ β : Type} (f : σ → Option β) (g : ρ → Option β) : Sum σ ρ → Option β
 | .inl s => f s
 | .inr r => g r
@[reducible] def un2 {α β δ : Type} (f : α → β → δ) : α × β → δ | (a, b) => f a b
@[reducible] def un3 {α β γ δ : Type} (f : α → β → γ → δ) : α × β × γ → δ | (a, b, c) => f a b c
@[reducible] def un5 {α β γ ε ζ δ : Type} (f : α → β → γ → ε → ζ → δ) : α × β × γ × ε × ζ → δ | (a, b, c, d, e) => f a b c d e
def idx {α : Type} (l : List α) (i : Int) : Option α := if 0 ≤ i then l[i.toNat]? else none
def slc {α : Type} (l : List α) (a b : Int) : Option (List α) := if 0 ≤ a ∧ a ≤ b ∧ b ≤ l.length then some ((l.take b.toNat).drop a.toNat) else none
def psh {α : Type} (l : List α) (x : α) : Option (List α) := if l.length < LIM then some (l ++ [x]) else none
def app {α : Type} (l m : List α) : Option (List α) := if l.length + m.length ≤ LIM then some (l ++ m) else none
def upd {α : Type} (l : List α) (i : Int) (x : α) : Option (List α) := if 0 ≤ i ∧ i < l.length then some (l.set i.toNat x) else none
def mk0 {α : Type} (z : α) (n : Int) : Option (List α) := if 0 ≤ n ∧ n ≤ LIM then some (List.replicate n.toNat z) else none
def nn (y : Int) : Option Unit := if 0 ≤ y then some () else none
section
variable {α β γ δ ε : Type}
theorem bdS {o : Option α} {f : α → Option β} {r : β} (h : bd o f = some r) : ∃ a, o = some a ∧ f a = some r := by
 cases o with
 | none => cases h
 | some a => exact ⟨a, rfl, h⟩
theorem bd2S {o : Option (α × β)} {f : α → β → Option γ} {r : γ} (h : bd2 o f = some r) : ∃ a b, o = some (a, b) ∧ f a b = some r := by
 cases o with
 | none => cases h
 | some x => exact ⟨x.1, x.2, rfl, h⟩
theorem bd3S {o : Option (α × β × γ)} {f : α → β → γ → Option δ} {r : δ} (h : bd3 o f = some r) : ∃ a b c, o = some (a, b, c) ∧ f a b c = some r := by
 cases o with
 | none => cases h
 | some x => exact ⟨x.1, x.2.1, x.2.2, rfl, h⟩
theorem ifT {c : Bool} {x y z : α} (h : (if c = true then x else y) = z) (hc : c = true) : x = z := by rw [if_pos hc] at h; exact h
theorem ifF {c : Bool} {x y z : α} (h : (if c = true then x else y) = z) (hc : c = false) : y = z := by rw [if_neg (by rw [hc]; simp)] at h; exact h
theorem elL {σ ρ β : Type} {f : σ → Option β} {g : ρ → Option β} {s : σ} {r : β} (h : el f g (.inl s) = some r) : f s = some r := h
theorem elR {σ ρ β : Type} {f : σ → Option β} {g : ρ → Option β} {s : ρ} {r : β} (h : el f g (.inr s) = some r) : g s = some r := h
theorem som {a b : α} (h : some a = some b) : a = b := Option.some.inj h
@[simp] theorem bd_some (a : α) (f : α → Option β) : bd (some a) f = f a := rfl
@[simp] theorem bd2_some (a : α) (b : β) (f : α → β → Option γ) : bd2 (some (a, b)) f = f a b := rfl
@[simp] theorem bd3_some (a : α) (b : β) (c : γ) (f : α → β → γ → Option δ) : bd3 (some (a, b, c)) f = f a b c := rfl
@[simp] theorem el_inl {σ ρ β : Type} (f : σ → Option β) (g : ρ → Option β) (s : σ) : el f g (.inl s) = f s := rfl
@[simp] theorem el_inr {σ ρ β : Type} (f : σ → Option β) (g : ρ → Option β) (r : ρ) : el f g (.inr r) = g r := rfl
end
theorem idxS {α : Type} {l : List α} {i : Int} {x : α} (h : idx l i = some x) : 0 ≤ i ∧ l[i.toNat]? = some x ∧ i < l.length := by
 unfold idx at h
 split at h
 ·rename_i h0
  refine ⟨h0, h, ?_⟩
  have := (List.getElem?_eq_some_iff.1 h).1
  omega
 ·cases h
theorem idx_nat {α : Type} (l : List α) (k : Nat) : idx l (k : Int) = l[k]? := by unfold idx; rw [if_pos (by omega)]; rfl
theorem inI_wrap (x : Int) : inI (IntKind.i64.wrap x) := by rw [IntKind.wrap_i64]; unfold inI; omega
theorem inI_add (x y : Int) : inI (iadd x y) := inI_wrap _
theorem inI_sub (x y : Int) : inI (isub x y) := inI_wrap _
theorem inI_len {n : Nat} (h : n ≤ LEN) : inI (n : Int) := by unfold inI; have := LEN_le; omega
theorem inI_rem {x y : Int} (h : inI x) : inI (irem x y) := by
 unfold irem inI at *
 have h3 := Int.natAbs_tmod x y
 have h4 : (x.tmod y).natAbs ≤ x.natAbs := by rw [h3]; exact Nat.mod_le _ _
 rcases Int.le_total 0 x with h0 | h0
 ·have h1 := Int.tmod_nonneg y h0
  omega
 ·have h1 := Int.tmod_nonneg y (show 0 ≤ -x by omega)
  rw [Int.neg_tmod] at h1
  omega
theorem LIM_le : LIM ≤ LEN := by decide
theorem toI_byte (c : UInt8) : IntKind.i64.wrap (byteI c) = byteI c := by
 rw [IntKind.wrap_i64]; have := c.toNat_lt; unfold byteI; omega
theorem iinc {k n : Nat} (h : k < n) (hn : n ≤ 9223372036854775807) : iadd (k : Int) 1 = ((k + 1 : Nat) : Int) := by
 unfold iadd; rw [IntKind.wrap_i64]; have := LEN_le; omega
theorem nolt {k n : Nat} (hk : k < n) (hc : decide ((k : Int) < (n : Int)) = false) : False := by
 simp at hc; omega
theorem noltt {n : Nat} (hc : decide ((n : Int) < (n : Int)) = true) : False := by
 simp at hc
section
variable {P : Program} {N : Nat} {ops : Array Oper} {K : Act → World → Prop} {Q : Exit → Act → World → Prop} {e : Env} {w : World} {rest : List Oper} {T : Nat} {p : Plan} {X : Nat → Prop}
variable {d : Nat} {op : Op} {ty : TypeId} {pos : String} {aft : Array Edge}
theorem R {v : Value} (hf : Nat.blt d N = true) (h : Rd noX P N ⟨some d, op, ty, pos, aft, none⟩ e w v) (k : WL P N ops K Q rest ((d, v) :: e) w) : WL P N ops K Q (⟨some d, op, ty, pos, aft, none⟩ :: rest) e w := WL_rd rfl hf h k
theorem E {S : Value → World → Prop} (hf : Nat.blt d N = true) (h : Ef P N ⟨some d, op, ty, pos, aft, none⟩ e w S) (k : ∀ v w', S v w' → WL P N ops K Q rest ((d, v) :: e) w') : WL P N ops K Q (⟨some d, op, ty, pos, aft, none⟩ :: rest) e w := WL_ef rfl hf h k
theorem E0 {S : Value → World → Prop} (h : Ef P N ⟨none, op, ty, pos, aft, none⟩ e w S) (k : ∀ v w', S v w' → WL P N ops K Q rest e w') : WL P N ops K Q (⟨none, op, ty, pos, aft, none⟩ :: rest) e w := WL_ef rfl rfl h k
section guards
variable {j gd : Nat} {want b : Bool}
theorem Rg {v : Value} (hj : (ops[j]?).bind (·.dst) = some gd) (hb : look e gd = some (.bool b)) (hw : b = want) (hf : Nat.blt d N = true) (h : Rd noX P N ⟨some d, op, ty, pos, aft, some (j, want)⟩ e w v) (k : WL P N ops K Q rest ((d, v) :: e) w) : WL P N ops K Q (⟨some d, op, ty, pos, aft, some (j, want)⟩ :: rest) e w :=
 WL_guard_rd rfl hj (hw ▸ hb) hf h k
theorem Eg {S : Value → World → Prop} (hj : (ops[j]?).bind (·.dst) = some gd) (hb : look e gd = some (.bool b)) (hw : b = want) (hf : Nat.blt d N = true) (h : Ef P N ⟨some d, op, ty, pos, aft, some (j, want)⟩ e w S) (k : ∀ v w', S v w' → WL P N ops K Q rest ((d, v) :: e) w') : WL P N ops K Q (⟨some d, op, ty, pos, aft, some (j, want)⟩ :: rest) e w :=
 WL_guard_ef rfl hj (hw ▸ hb) hf h k
theorem Ng (hj : (ops[j]?).bind (·.dst) = some gd) (hb : look e gd = some (.bool b)) (hw : b = !want) (hf : Nat.blt d N = true) (k : WL P N ops K Q rest ((d, undef) :: e) w) : WL P N ops K Q (⟨some d, op, ty, pos, aft, some (j, want)⟩ :: rest) e w :=
 WL_guard_no rfl hj (hw ▸ hb) hf k
theorem Nu (hj : (ops[j]?).bind (·.dst) = some gd) (hb : look e gd = some undef) (hf : Nat.blt d N = true) (k : WL P N ops K Q rest ((d, undef) :: e) w) : WL P N ops K Q (⟨some d, op, ty, pos, aft, some (j, want)⟩ :: rest) e w :=
 WL_guard_undef rfl hj hb hf k
end guards
theorem dR {i : Nat} {v : Value} (ho : ops[i]? = some ⟨some d, op, ty, pos, aft, none⟩) (hf : Nat.blt d N = true) (h : Rd X P N ⟨some d, op, ty, pos, aft, none⟩ e w v) (k : PR X P N ops T K p ((d, v) :: e) w) : PR X P N ops T K (.rd i p) e w := PR_rd ho rfl hf h k
theorem dE {i : Nat} {S : Value → World → Prop} (ho : ops[i]? = some ⟨some d, op, ty, pos, aft, none⟩) (hf : Nat.blt d N = true) (h : Ef P N ⟨some d, op, ty, pos, aft, none⟩ e w S) (hT : T.testBit i = true ∨ ∀ v w', S v w' → Chg X w w') (k : ∀ v w', S v w' → PR X P N ops T K p ((d, v) :: e) w') : PR X P N ops T K (.ef i p) e w := PR_ef ho rfl hf h hT k
theorem dE0 {i : Nat} {S : Value → World → Prop} (ho : ops[i]? = some ⟨none, op, ty, pos, aft, none⟩) (h : Ef P N ⟨none, op, ty, pos, aft, none⟩ e w S) (hT : T.testBit i = true ∨ ∀ v w', S v w' → Chg X w w') (k : ∀ v w', S v w' → PR X P N ops T K p e w') : PR X P N ops T K (.ef i p) e w := PR_ef ho rfl rfl h hT k
section guards
variable {i j gd : Nat} {want b : Bool}
theorem dRg {v : Value} (ho : ops[i]? = some ⟨some d, op, ty, pos, aft, some (j, want)⟩) (hj : (ops[j]?).bind (·.dst) = some gd) (hb : look e gd = some (.bool b)) (hw : b = want) (hf : Nat.blt d N = true) (h : Rd X P N ⟨some d, op, ty, pos, aft, some (j, want)⟩ e w v) (k : PR X P N ops T K p ((d, v) :: e) w) : PR X P N ops T K (.rd i p) e w :=
 PR_rd_yes ho rfl hj (hw ▸ hb) hf h k
theorem dRn (ho : ops[i]? = some ⟨some d, op, ty, pos, aft, some (j, want)⟩) (hj : (ops[j]?).bind (·.dst) = some gd) (hb : look e gd = some (.bool b)) (hw : b = !want) (hf : Nat.blt d N = true) (k : PR X P N ops T K p ((d, undef) :: e) w) : PR X P N ops T K (.rd i p) e w :=
 PR_rd_no ho rfl hj (hw ▸ hb) hf k
theorem dRu (ho : ops[i]? = some ⟨some d, op, ty, pos, aft, some (j, want)⟩) (hj : (ops[j]?).bind (·.dst) = some gd) (hb : look e gd = some undef) (hf : Nat.blt d N = true) (k : PR X P N ops T K p ((d, undef) :: e) w) : PR X P N ops T K (.rd i p) e w :=
 PR_rd_undef ho rfl hj hb hf k
theorem dEg {S : Value → World → Prop} (ho : ops[i]? = some ⟨some d, op, ty, pos, aft, some (j, want)⟩) (hj : (ops[j]?).bind (·.dst) = some gd) (hb : look e gd = some (.bool b)) (hw : b = want) (hf : Nat.blt d N = true) (h : Ef P N ⟨some d, op, ty, pos, aft, some (j, want)⟩ e w S) (hT : T.testBit i = true ∨ ∀ v w', S v w' → Chg X w w') (k : ∀ v w', S v w' → PR X P N ops T K p ((d, v) :: e) w') : PR X P N ops T K (.ef i p) e w :=
 PR_ef_yes ho rfl hj (hw ▸ hb) hf h hT k
theorem dEn (ho : ops[i]? = some ⟨some d, op, ty, pos, aft, some (j, want)⟩) (hj : (ops[j]?).bind (·.dst) = some gd) (hb : look e gd = some (.bool b)) (hw : b = !want) (hf : Nat.blt d N = true) (k : PR X P N ops T K p ((d, undef) :: e) w) : PR X P N ops T K (.ef i p) e w :=
 PR_ef_no ho rfl hj (hw ▸ hb) hf k
theorem dEu (ho : ops[i]? = some ⟨some d, op, ty, pos, aft, some (j, want)⟩) (hj : (ops[j]?).bind (·.dst) = some gd) (hb : look e gd = some undef) (hf : Nat.blt d N = true) (k : PR X P N ops T K p ((d, undef) :: e) w) : PR X P N ops T K (.ef i p) e w :=
 PR_ef_undef ho rfl hj hb hf k
end guards
theorem WC_cut {c : Code} {K' : Act → World → Prop} (J : Act → World → Prop) (h1 : WC P N c J Q e w) (h2 : ∀ a w', J a w' → K' a w') : WC P N c K' Q e w := WC_mono h2 (fun _ _ _ h => h) h1
end
section
variable {α : Type} [Dat α] {w w' : World} {B : Nat} {v : Value} {l : List α} {S : List Nat} {X : Nat → Prop}
theorem repS.rep (h : repS w B v l) : Dat.rep w B [v] l := ⟨v, rfl, h⟩
theorem repS.of (h : Dat.rep w B [v] l) : repS w B v l := by
 obtain ⟨v', he, h⟩ := h
 obtain rfl := (List.cons.inj he).1
 exact h
theorem repS.ext (h : repS w B v l) (hb : Below w.heap.size w w') : repS w' B v l := repS.of (rep_ext h.rep hb)
theorem repS.chg (h : repS w B v l) (hc : Chg X w w') (hx : ∀ k, k < B → ¬ X k) : repS w' B v l := repS.of (rep_chg h.rep hc hx)
theorem ownS.own (h : ownS w S v l) : Dat.own w S [v] l := ⟨v, rfl, h⟩
theorem ownS.of (h : Dat.own w S [v] l) : ownS w S v l := by
 obtain ⟨v', he, h⟩ := h
 obtain rfl := (List.cons.inj he).1
 exact h
theorem ownS.ext (h : ownS w S v l) (hb : Below w.heap.size w w') : ownS w' S v l := ownS.of (own_ext h.own hb)
theorem ownS.chg (h : ownS w S v l) (hc : Chg X w w') (hx : ∀ k ∈ S, ¬ X k) : ownS w' S v l := ownS.of (own_chg h.own hc hx)
theorem ownS.lt (h : ownS w S v l) : ∀ k ∈ S, k < w.heap.size := own_lt h.own
theorem ownS.rep (h : ownS w S v l) : repS w w.heap.size v l := repS.of (own_rep' h.own)
theorem ownS.len (h : ownS w S v l) : l.length ≤ LEN := by
 rcases h with ⟨_, rfl, _⟩ | ⟨g, c, cur, Ss, _, _, h3, _⟩
 ·exact Nat.zero_le _
 ·exact h3
theorem repS.len (h : repS w B v l) : l.length ≤ LEN := by obtain ⟨ao, c, _, _, h, _⟩ := h; exact h
theorem ownS.shape (h : ownS w S v l) : ∃ ao c, v = .slice ao l.length c := by
 rcases h with ⟨rfl, rfl, _⟩ | ⟨g, c, cur, Ss, rfl, _⟩
 ·exact ⟨none, 0, rfl⟩
 ·exact ⟨_, c, rfl⟩
theorem repS.shape (h : repS w B v l) : ∃ ao c, v = .slice ao l.length c := by obtain ⟨ao, c, h, _⟩ := h; exact ⟨ao, c, h⟩
theorem repS.at {ao : Option Addr} {c n : Nat} {i : Int} {x : α} (h : repS w B (.slice ao n c) l) (hx : idx l i = some x) : ∃ b o cs, ao = some ⟨b, o, none⟩ ∧ 0 ≤ i ∧ i < (n : Int) ∧ CellsAt w b (o + i.toNat * sz α) cs ∧ Dat.rep w B cs x := by
 obtain ⟨h0, h1, h2⟩ := idxS hx
 obtain ⟨ao', c', he, _, _, hn, hp⟩ := h
 simp only [Value.slice.injEq] at he
 obtain ⟨rfl, rfl, rfl⟩ := he
 cases ao with
 | none => rw [hn rfl] at h1; simp at h1
 | some p =>
  obtain ⟨k0, _, k3⟩ := hp p rfl
  have k1 := k0 (by rintro rfl; simp at h1)
  obtain ⟨cs, g1, g2⟩ := k3 _ _ h1
  exact ⟨p.block, p.off, cs, by cases p; simp_all, h0, h2, g1, g2⟩
end
theorem CellsAt.ext {w w' : World} {b o : Nat} {cs : List Value} (h : CellsAt w b o cs) (hb : Below w.heap.size w w') : CellsAt w' b o cs := fun j v hv => (hb.cell (World.block_lt_of_cell? w _ (h j v hv))).trans (h j v hv)
theorem CellsAt.chg {X : Nat → Prop} {w w' : World} {b o : Nat} {cs : List Value} (h : CellsAt w b o cs) (hc : Chg X w w') (hx : ¬ X b) : CellsAt w' b o cs := fun j v hv => by
 have := h j v hv
 rw [← this]
 exact World.cell?_of_block (w := w) (hc.block b (World.block_lt_of_cell? w _ this) hx)
theorem CellsAt.at {w : World} {b o j : Nat} {cs : List Value} {v : Value} (h : CellsAt w b o cs) (hv : cs[j]? = some v) : w.cell? ⟨b, o + j, none⟩ = some v := h j v hv
theorem Blk.at {w : World} {g i : Nat} {l : List Value} {v : Value} (h : Blk w g l) (hv : l[i]? = some v) : w.cell? ⟨g, i, none⟩ = some v := by rw [h.cell, hv]
theorem Blk.row {w : World} {g : Nat} {l : List Value} (h : Blk w g l) (o n : Nat) {vs : List Value} (hv : (l.drop o).take n = vs) : CellsAt w g o vs := by subst hv; exact h.cells o n
theorem Blk.all {w : World} {g : Nat} {l : List Value} (h : Blk w g l) : CellsAt w g 0 l := fun j v hv => by rw [Nat.zero_add, h.cell]; exact hv
theorem Chg.comp {X Y : Nat → Prop} {a b c : World} (h : Chg X a b) (h' : Chg Y b c) (hy : ∀ k, k < a.heap.size → Y k → X k) : Chg X a c :=
 ⟨h'.os.trans h.os, h'.tape.trans h.tape, h'.output.trans h.output, Nat.le_trans h.size h'.size, fun k hk hx => (h'.block k (Nat.lt_of_lt_of_le hk h.size) (fun y => hx (hy k hk y))).trans (h.block k hk hx)⟩
theorem Chg.ext {X : Nat → Prop} {a b c : World} (h : Chg X a b) (h' : Below b.heap.size b c) : Chg X a c := h.comp (Vw.Below.chg h' (fun _ => False)) (fun _ _ => False.elim)
theorem bup {a b c : World} (h : Below a.heap.size a b) (h' : Below b.heap.size b c) : Below a.heap.size a c := h.trans (h'.mono h.size)
theorem bchg {X : Nat → Prop} {a b c : World} (h : Below a.heap.size a b) (h' : Chg X b c) (hx : ∀ k, k < a.heap.size → ¬ X k) : Below a.heap.size a c := h.trans (h'.below h.size hx)
theorem brefl (a : World) : Below a.heap.size a a := Below.refl _ _
end Go.Vw
