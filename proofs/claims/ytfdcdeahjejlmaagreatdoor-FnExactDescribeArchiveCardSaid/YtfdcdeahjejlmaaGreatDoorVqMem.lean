import Derived.Test.YtfdcdeahjejlmaaGreatDoorVqCalm
set_option linter.unusedVariables false
namespace Go.Vw
open Go.RowKit
def LEN : Nat := 140737488355328
theorem H_ : LEN ≤ 9223372036854775807 := by decide
def LIM : Nat := 4294967296
def Blk (w : World) (g : Nat) (l : List Value) : Prop := ∃ T fr, w.heap[g]? = some (.cells l.toArray T fr) ∧ (fr.2 ≤ fr.1 ∨ l.length ≤ fr.1)
theorem Blk.lt {w : World} {g : Nat} {l : List Value} (h : Blk w g l) : g < w.heap.size := by
 obtain ⟨T, fr, h, _⟩ := h
 exact (Array.getElem?_eq_some_iff.1 h).1
theorem Blk.of_eq {w w' : World} {g : Nat} {l : List Value} (h : Blk w g l) (he : w'.heap[g]? = w.heap[g]?) : Blk w' g l := by
 unfold Blk; rw [he]; exact h
theorem Blk.chg {X : Nat → Prop} {w w' : World} {g : Nat} {l : List Value} (h : Blk w g l) (hc : Chg X w w') (hx : ¬ X g) : Blk w' g l := h.of_eq (hc.block g h.lt hx)
theorem Blk.ext {w w' : World} {g : Nat} {l : List Value} (h : Blk w g l) (hb : Below w.heap.size w w') : Blk w' g l := h.of_eq (hb.block g h.lt)
theorem Blk.cell {w : World} {g : Nat} {l : List Value} (h : Blk w g l) (i : Nat) : w.cell? ⟨g, i, none⟩ = l[i]? := by
 obtain ⟨T, fr, h, _⟩ := h
 simp [World.cell?, h]
theorem Blk.free {w : World} {g : Nat} {l : List Value} (h : Blk w g l) {i : Nat} (hi : i < l.length) : w.frozen? ⟨g, i, none⟩ = false := by
 obtain ⟨T, fr, h, hf⟩ := h
 simp only [World.frozen?, h]
 rcases fr with ⟨lo, hi'⟩
 simp only [Bool.and_eq_false_iff, decide_eq_false_iff_not]
 simp only at hf
 omega
theorem Blk.set {w : World} {g : Nat} {l : List Value} (h : Blk w g l) (i : Nat) (v : Value) : Blk (w.setCell ⟨g, i, none⟩ v) g (l.set i v) := by
 obtain ⟨T, fr, h, hf⟩ := h
 refine ⟨T, fr, ?_, by simpa using hf⟩
 simp only [World.setCell, Array.getElem?_modify, if_true, h, Option.map_some]
 simp
theorem l_d (w : World) (a : Addr) (v : Value) : Chg (· = a.block) w (w.setCell a v) :=
 ⟨rfl, rfl, rfl, by simp, fun k _ hx => Below.heap_setCell w a v k hx⟩
theorem a_B (w : World) (o : Obj) : Below w.heap.size w (w.alloc o) := (Below.refl _ _).alloc (Nat.le_refl _) o
theorem p_c (w : World) (l : List Value) (T : TypeId) : Blk (w.alloc (.cells l.toArray T)) w.heap.size l :=
 ⟨T, (0, 0), heap_alloc_new w _, .inl (Nat.le_refl _)⟩
theorem alloc_blk' (w : World) (c : Array Value) (T : TypeId) : Blk (w.alloc (.cells c T)) w.heap.size c.toList := by
 have := p_c w c.toList T
 simpa using this
def M_ (w : World) (b o : Nat) (cs : List Value) : Prop := ∀ j v, cs[j]? = some v → w.cell? ⟨b, o + j, none⟩ = some v
theorem M_.of_block {w w' : World} {b o : Nat} {cs : List Value} (h : M_ w b o cs) (he : w'.heap[b]? = w.heap[b]?) : M_ w' b o cs := fun j v hv => by
 rw [World.cell?_of_block (w := w) (a := ⟨b, o + j, none⟩) he]; exact h j v hv
theorem M_.lt {w : World} {b o : Nat} {cs : List Value} (h : M_ w b o cs) (hn : cs ≠ []) : b < w.heap.size := by
 cases cs with
 | nil => exact absurd rfl hn
 | cons v r => exact World.block_lt_of_cell? w ⟨b, o + 0, none⟩ (h 0 v rfl)
theorem Blk.cells {w : World} {g : Nat} {l : List Value} (h : Blk w g l) (o n : Nat) : M_ w g o ((l.drop o).take n) := fun j v hv => by
 rw [h.cell]
 rw [List.getElem?_take] at hv
 split at hv
 ·rw [List.getElem?_drop] at hv; exact hv
 ·cases hv
theorem f_r {P : Program} {g o : Nat} : ∀ (vs : List Value) (i : Nat) (w : World) (l : List Value), Blk w g l → o + i + vs.length ≤ l.length → (∀ v ∈ vs, v.oneCell' = true) →
  ∃ w', (storeCells ⟨g, o, none⟩ vs i).run P w = .ok () w' ∧ Blk w' g (l.take (o + i) ++ vs ++ l.drop (o + i + vs.length)) ∧ Chg (· = g) w w'
 | [], i, w, l, h, _, _ => ⟨w, rfl, by simpa using h, Chg.refl _ _⟩
 | v :: vs, i, w, l, h, hl, h1 => by
  simp only [List.length_cons] at hl
  have hc : w.cell? ⟨g, o + i, none⟩ = some l[o + i] := by rw [h.cell]; simp
  have hf := h.free (i := o + i) (by omega)
  obtain ⟨w', hrun, hb, hch⟩ := f_r (P := P) (o := o) vs (i + 1) (w.setCell ⟨g, o + i, none⟩ v) (l.set (o + i) v) (h.set _ _) (by simp; omega) (fun u hu => h1 u (List.mem_cons_of_mem _ hu))
  refine ⟨w', ?_, ?_, (l_d w ⟨g, o + i, none⟩ v).trans hch⟩
  ·simp only [storeCells, Sem.run_bind, Addr.add_lit, run_store _ _ _ _ _ (h1 v List.mem_cons_self), hc, hf, Bool.false_eq_true, if_false, Result.andThen_ok]
   exact hrun
  ·have hs := list_seg_step l (o + i) v vs (by omega)
   have : o + (i + 1) = o + i + 1 := by omega
   rw [this] at hb
   simp only [List.length_cons]
   rw [← hs]
   exact hb
def Zone := Nat → Prop
def bl (n : Nat) : Zone := fun k => k < n
instance : Coe Nat Zone := ⟨bl⟩
instance : LE Zone := ⟨fun A B => ∀ k, A k → B k⟩
def zn (B : Zone) (i j : Nat) : Zone := fun k => B k ∨ (i ≤ k ∧ k < j)
theorem zr {B : Zone} : B ≤ B := fun _ h => h
theorem zt {A B C : Zone} (h : A ≤ B) (h' : B ≤ C) : A ≤ C := fun k hk => h' k (h k hk)
theorem b_5 {m n : Nat} (h : m ≤ n) : bl m ≤ bl n := fun _ hk => Nat.lt_of_lt_of_le hk h
theorem zt' {B : Zone} {m n : Nat} (h : B ≤ bl m) (h' : m ≤ n) : B ≤ bl n := zt h (b_5 h')
theorem d_b {B : Zone} {i j : Nat} : B ≤ zn B i j := fun _ h => .inl h
theorem b_i {B : Zone} {i j i' j' : Nat} (h : i' ≤ i) (h' : j ≤ j') : zn B i j ≤ zn B i' j' := fun _ hk => hk.imp id fun g => ⟨Nat.le_trans h g.1, Nat.lt_of_lt_of_le g.2 h'⟩
theorem zn_zn {B : Zone} {i j k l : Nat} (h : i ≤ k) (h' : j ≤ l) : zn (zn B i j) k l ≤ zn B i l := fun _ hk => hk.elim (fun q => q.imp id fun g => ⟨g.1, Nat.lt_of_lt_of_le g.2 h'⟩) fun g => .inr ⟨Nat.le_trans h g.1, g.2⟩
theorem f_s {B : Zone} {i j n : Nat} (h : B ≤ bl n) (h' : j ≤ n) : zn B i j ≤ bl n := fun k hk => hk.elim (h k) fun g => Nat.lt_of_lt_of_le g.2 h'
class Dat (α : Type) where
 sz : Nat
 rep : World → Zone → List Value → α → Prop
 own : World → List Nat → List Value → α → Prop
 rep_len : ∀ {w B cs x}, rep w B cs x → cs.length = sz
 rep_one : ∀ {w B cs x}, rep w B cs x → ∀ c ∈ cs, c.oneCell' = true
 rep_eq : ∀ {w w' B cs x}, rep w B cs x → (∀ k, B k → k < w.heap.size → w'.heap[k]? = w.heap[k]?) → rep w' B cs x
 rep_mono : ∀ {w B B' cs x}, rep w B cs x → B ≤ B' → rep w B' cs x
 own_eq : ∀ {w w' S cs x}, own w S cs x → (∀ k ∈ S, w'.heap[k]? = w.heap[k]?) → own w' S cs x
 own_lt : ∀ {w S cs x}, own w S cs x → ∀ k ∈ S, k < w.heap.size
 own_rep : ∀ {w S cs x B}, own w S cs x → (∀ k ∈ S, B k) → rep w B cs x
 pos : 0 < sz
open Dat
theorem p_d {α : Type} [Dat α] {w w' : World} {B : Zone} {cs : List Value} {x : α} (h : rep w B cs x) (hb : Below w.heap.size w w') : rep w' B cs x := rep_eq h fun k _ hk => hb.block k hk
theorem p_e {α : Type} [Dat α] {X : Nat → Prop} {w w' : World} {B : Zone} {cs : List Value} {x : α} (h : rep w B cs x) (hc : Chg X w w') (hx : ∀ k, B k → ¬ X k) : rep w' B cs x := rep_eq h fun k hk hk' => hc.block k hk' (hx k hk)
theorem h_i {α : Type} [Dat α] {w w' : World} {S : List Nat} {cs : List Value} {x : α} (h : own w S cs x) (hb : Below w.heap.size w w') : own w' S cs x := own_eq h fun k hk => hb.block k (own_lt h k hk)
theorem d_X {α : Type} [Dat α] {X : Nat → Prop} {w w' : World} {S : List Nat} {cs : List Value} {x : α} (h : own w S cs x) (hc : Chg X w w') (hx : ∀ k ∈ S, ¬ X k) : own w' S cs x := own_eq h fun k hk => hc.block k (own_lt h k hk) (hx k hk)
theorem own_rep' {α : Type} [Dat α] {w : World} {S : List Nat} {cs : List Value} {x : α} (h : own w S cs x) : rep w w.heap.size cs x := own_rep h (own_lt h)
@[reducible] def Dat.flat {α : Type} (f : α → Value → Prop) (h1 : ∀ {x v}, f x v → v.oneCell' = true) : Dat α where
 sz := 1
 rep _ _ cs x := ∃ v, cs = [v] ∧ f x v
 own _ S cs x := S = [] ∧ ∃ v, cs = [v] ∧ f x v
 rep_len := by rintro _ _ _ _ ⟨v, rfl, _⟩; rfl
 rep_one := by rintro _ _ _ _ ⟨v, rfl, hv⟩ c hc; rw [List.mem_singleton] at hc; subst hc; exact h1 hv
 rep_eq h _ := h
 rep_mono h _ := h
 own_eq h _ := h
 own_lt := by rintro _ _ _ _ ⟨rfl, _⟩ k hk; cases hk
 own_rep := by rintro _ _ _ _ _ ⟨rfl, h⟩ _; exact h
 pos := Nat.one_pos
def inI (x : Int) : Prop := -9223372036854775808 ≤ x ∧ x ≤ 9223372036854775807
structure Str where
 b : List UInt8
deriving DecidableEq, Inhabited
@[reducible] def Str.v (s : Str) : Value := .string ⟨s.b.toArray⟩
@[reducible] def vI (x : Int) : Value := .int .i64 x
@[reducible] def vB (b : Bool) : Value := .bool b
@[reducible] def vU (x : Int) : Value := .int .u8 x
@[reducible] def byteI (x : UInt8) : Int := (x.toNat : Int)
instance : Dat Int := Dat.flat (fun x v => v = vI x ∧ inI x) (fun h => by rw [h.1]; rfl)
instance : Dat Bool := Dat.flat (fun x v => v = vB x) (fun h => by rw [h]; rfl)
instance : Dat UInt8 := Dat.flat (fun x v => v = vU (byteI x)) (fun h => by rw [h]; rfl)
instance : Dat Str := Dat.flat (fun x v => v = x.v ∧ x.b.length ≤ LEN) (fun h => by rw [h.1]; rfl)
@[reducible] def Dat.via {α β : Type} [Dat β] (f : α → β) : Dat α where
 sz := sz β
 rep w B cs x := rep w B cs (f x)
 own w S cs x := own w S cs (f x)
 rep_len h := rep_len (α := β) h
 rep_one h := rep_one (α := β) h
 rep_eq h he := rep_eq (α := β) h he
 rep_mono h hb := rep_mono (α := β) h hb
 own_eq h he := own_eq (α := β) h he
 own_lt h := own_lt (α := β) h
 own_rep h hb := own_rep (α := β) h hb
 pos := pos (α := β)
instance {α β : Type} [Dat α] [Dat β] : Dat (α × β) where
 sz := sz α + sz β
 rep w B cs x := ∃ c d, cs = c ++ d ∧ rep w B c x.1 ∧ rep w B d x.2
 own w S cs x := ∃ c d S1 S2, cs = c ++ d ∧ S = S1 ++ S2 ∧ own w S1 c x.1 ∧ own w S2 d x.2
 rep_len := by rintro _ _ _ _ ⟨c, d, rfl, h1, h2⟩; simp [rep_len h1, rep_len h2]
 rep_one := by
  rintro _ _ _ _ ⟨c, d, rfl, h1, h2⟩ x hx
  rcases List.mem_append.1 hx with h | h
  ·exact rep_one h1 x h
  ·exact rep_one h2 x h
 rep_eq := by rintro _ _ _ _ _ ⟨c, d, rfl, h1, h2⟩ he; exact ⟨c, d, rfl, rep_eq h1 he, rep_eq h2 he⟩
 rep_mono := by rintro _ _ _ _ _ ⟨c, d, rfl, h1, h2⟩ he; exact ⟨c, d, rfl, rep_mono h1 he, rep_mono h2 he⟩
 own_eq := by
  rintro _ _ _ _ _ ⟨c, d, S1, S2, rfl, rfl, h1, h2⟩ he
  exact ⟨c, d, S1, S2, rfl, rfl, own_eq h1 (fun k hk => he k (List.mem_append_left _ hk)), own_eq h2 (fun k hk => he k (List.mem_append_right _ hk))⟩
 own_lt := by
  rintro _ _ _ _ ⟨c, d, S1, S2, rfl, rfl, h1, h2⟩ k hk
  rcases List.mem_append.1 hk with h | h
  ·exact own_lt h1 k h
  ·exact own_lt h2 k h
 own_rep := by
  rintro _ _ _ _ _ ⟨c, d, S1, S2, rfl, rfl, h1, h2⟩ hk
  exact ⟨c, d, rfl, own_rep h1 (fun k h => hk k (List.mem_append_left _ h)), own_rep h2 (fun k h => hk k (List.mem_append_right _ h))⟩
 pos := Nat.add_pos_left (pos (α := α)) _
def a_ {α : Type} [Dat α] (w : World) (B : Zone) (v : Value) (l : List α) : Prop :=
 ∃ ao c, v = .slice ao l.length c ∧ l.length ≤ c ∧ l.length ≤ LEN ∧ (ao = none → l = []) ∧
  ∀ p, ao = some p → (l ≠ [] → p.spot = none) ∧ (l ≠ [] → B p.block) ∧ ∀ (i : Nat) (x : α), l[i]? = some x → ∃ cs, M_ w p.block (p.off + i * sz α) cs ∧ rep w B cs x
def b_ {α : Type} [Dat α] (w : World) (S : List Nat) (v : Value) (l : List α) : Prop :=
 (v = .slice none 0 0 ∧ l = [] ∧ S = []) ∨
 ∃ g c cur Ss, v = .slice (some ⟨g, 0, none⟩) l.length c ∧ l.length ≤ c ∧ l.length ≤ LEN ∧ Blk w g cur ∧ cur.length = c * sz α ∧ S = g :: List.flatten Ss ∧ Ss.length = l.length ∧
  ∀ (i : Nat) (x : α) (Si : List Nat), l[i]? = some x → Ss[i]? = some Si → own w Si ((cur.drop (i * sz α)).take (sz α)) x
theorem d_c {S : List Nat} {Ss : List (List Nat)} {i k : Nat} (h : Ss[i]? = some S) (hk : k ∈ S) : k ∈ List.flatten Ss := List.mem_flatten.2 ⟨S, List.mem_of_getElem? h, hk⟩
theorem f_t {α β : Type} {l : List α} {m : List β} (h : m.length = l.length) {i : Nat} {x : α} (hx : l[i]? = some x) : ∃ y, m[i]? = some y := by
 have := (List.getElem?_eq_some_iff.1 hx).1
 exact ⟨m[i], by simp⟩
theorem zip_some' {α β : Type} {l : List α} {m : List β} (h : m.length = l.length) {i : Nat} {y : β} (hy : m[i]? = some y) : ∃ x, l[i]? = some x := by
 have := (List.getElem?_eq_some_iff.1 hy).1
 exact ⟨l[i], by simp⟩
instance {α : Type} [Dat α] : Dat (List α) where
 sz := 1
 rep w B cs l := ∃ v, cs = [v] ∧ a_ w B v l
 own w S cs l := ∃ v, cs = [v] ∧ b_ w S v l
 rep_len := by rintro _ _ _ _ ⟨v, rfl, _⟩; rfl
 rep_one := by
  rintro _ _ _ _ ⟨v, rfl, ⟨ao, c, rfl, _⟩⟩ x hx
  rw [List.mem_singleton] at hx; subst hx; rfl
 rep_eq := by
  rintro w w' B _ l ⟨v, rfl, ⟨ao, c, hv, h1, h2, h3, h4⟩⟩ he
  refine ⟨v, rfl, ao, c, hv, h1, h2, h3, fun p hp => ?_⟩
  obtain ⟨k1, k2, k3⟩ := h4 p hp
  refine ⟨k1, k2, fun i x hx => ?_⟩
  obtain ⟨cs, g1, g2⟩ := k3 i x hx
  have hn : l ≠ [] := by rintro rfl; simp at hx
  refine ⟨cs, g1.of_block (he _ (k2 hn) (g1.lt ?_)), rep_eq g2 he⟩
  have := rep_len g2; have := pos (α := α); rintro rfl; simp at *; omega
 rep_mono := by
  rintro w B B' _ l ⟨v, rfl, ⟨ao, c, hv, h1, h2, h3, h4⟩⟩ hB
  refine ⟨v, rfl, ao, c, hv, h1, h2, h3, fun p hp => ?_⟩
  obtain ⟨k1, k2, k3⟩ := h4 p hp
  refine ⟨k1, fun hn => hB _ (k2 hn), fun i x hx => ?_⟩
  obtain ⟨cs, g1, g2⟩ := k3 i x hx
  exact ⟨cs, g1, rep_mono g2 hB⟩
 own_eq := by
  rintro w w' S _ l ⟨v, rfl, h⟩ he
  refine ⟨v, rfl, ?_⟩
  rcases h with h | ⟨g, c, cur, Ss, hv, h1, h2, h3, h4, rfl, h6, h7⟩
  ·exact .inl h
  ·refine .inr ⟨g, c, cur, Ss, hv, h1, h2, h3.of_eq (he g List.mem_cons_self), h4, rfl, h6, fun i x Si hx hS => own_eq (h7 i x Si hx hS) fun k hk => he k (List.mem_cons_of_mem _ (d_c hS hk))⟩
 own_lt := by
  rintro w S _ l ⟨v, rfl, h⟩ k hk
  rcases h with ⟨_, _, rfl⟩ | ⟨g, c, cur, Ss, hv, h1, h2, h3, h4, rfl, h6, h7⟩
  ·cases hk
  ·rcases List.mem_cons.1 hk with rfl | hk
   ·exact h3.lt
   ·obtain ⟨Si, hSi, hk⟩ := List.mem_flatten.1 hk
    obtain ⟨i, hi⟩ := List.getElem?_of_mem hSi
    obtain ⟨x, hx⟩ := zip_some' h6 hi
    exact own_lt (h7 i x Si hx hi) k hk
 own_rep := by
  rintro w S _ l B ⟨v, rfl, h⟩ hB
  refine ⟨v, rfl, ?_⟩
  rcases h with ⟨rfl, rfl, _⟩ | ⟨g, c, cur, Ss, rfl, h1, h2, h3, h4, rfl, h6, h7⟩
  ·exact ⟨none, 0, rfl, Nat.le_refl _, Nat.zero_le _, fun _ => rfl, fun p hp => by cases hp⟩
  ·refine ⟨some ⟨g, 0, none⟩, c, rfl, h1, h2, fun h => (by cases h), fun p hp => ?_⟩
   obtain rfl := Option.some.inj hp
   refine ⟨fun _ => rfl, fun _ => hB g List.mem_cons_self, fun i x hx => ?_⟩
   obtain ⟨Si, hSi⟩ := f_t h6 hx
   refine ⟨(cur.drop (i * sz α)).take (sz α), ?_, own_rep (h7 i x Si hx hSi) fun k hk => hB k (List.mem_cons_of_mem _ (d_c hSi hk))⟩
   simpa using h3.cells (i * sz α) (sz α)
 pos := Nat.one_pos
end Go.Vw
