import Derived.Test.YtfdcdeahjejlmaaGreatDoorVqFun
import Derived.Test.YtfdcdeahjejlmaaGreatDoorVqVal
set_option linter.unusedVariables false
namespace Go.Vw
open Go.RowKit Dat
structure Raw (α : Type) [Dat α] where
 cs : List Value
 len : cs.length = sz α
 one : ∀ c ∈ cs, c.oneCell' = true
instance {α : Type} [Dat α] : Dat (Raw α) where
 sz := sz α
 rep _ _ cs x := cs = x.cs
 own _ S cs x := S = [] ∧ cs = x.cs
 rep_len := by rintro _ _ _ x rfl; exact x.len
 rep_one := by rintro _ _ _ x rfl; exact x.one
 rep_eq h _ := h
 rep_mono h _ := h
 own_eq h _ := h
 own_lt := by rintro _ _ _ _ ⟨rfl, _⟩ k hk; cases hk
 own_rep := by rintro _ _ _ _ _ ⟨rfl, h⟩ _; exact h
 pos := pos (α := α)
instance {α : Type} [Dat α] : a_g (Raw α) := ⟨fun h => ⟨rfl, h⟩, fun h => h.1⟩
def b_0 {α : Type} [Dat α] (w : World) (B : Zone) (rs : List (Raw α)) (l : List α) : Prop :=
 rs.length = l.length ∧ ∀ (i : Nat) (r : Raw α) (x : α), rs[i]? = some r → l[i]? = some x → rep w B r.cs x
theorem b_0.eq {α : Type} [Dat α] {w w' : World} {B : Zone} {rs : List (Raw α)} {l : List α} (h : b_0 w B rs l) (he : ∀ k, B k → k < w.heap.size → w'.heap[k]? = w.heap[k]?) : b_0 w' B rs l := ⟨h.1, fun i r x a b => rep_eq (h.2 i r x a b) he⟩
theorem b_0.mono {α : Type} [Dat α] {w : World} {B B' : Zone} {rs : List (Raw α)} {l : List α} (h : b_0 w B rs l) (hb : B ≤ B') : b_0 w B' rs l := ⟨h.1, fun i r x a b => rep_mono (h.2 i r x a b) hb⟩
structure L_ {α : Type} [Dat α] (w : World) (S : List Nat) (B : Zone) (v : Value) (l : List α) : Prop where
 ex : (∃ ao, v = .slice ao 0 0 ∧ l = [] ∧ S = []) ∨ ∃ rs : List (Raw α), b_ w S v rs ∧ b_0 w B rs l
structure rwS {α : Type} [Dat α] (w : World) (B : Zone) (v : Value) (l : List α) : Prop where
 ex : ∃ rs : List (Raw α), a_ w w.heap.size v rs ∧ b_0 w B rs l
section
variable {α : Type} [Dat α] {w w' : World} {S : List Nat} {B : Zone} {v : Value} {l : List α}
theorem L_.lt (h : L_ w S B v l) : ∀ k ∈ S, k < w.heap.size := by
 obtain ⟨⟨_, _, _, rfl⟩ | ⟨rs, h1, _⟩⟩ := h
 ·intro k hk; cases hk
 ·exact b_.lt h1
theorem L_.mono {B' : Zone} (h : L_ w S B v l) (hb : B ≤ B') : L_ w S B' v l := by
 obtain ⟨h | ⟨rs, h1, h2⟩⟩ := h
 ·exact ⟨.inl h⟩
 ·exact ⟨.inr ⟨rs, h1, h2.mono hb⟩⟩
theorem L_.ext (h : L_ w S B v l) (hb : Below w.heap.size w w') : L_ w' S B v l := by
 obtain ⟨h | ⟨rs, h1, h2⟩⟩ := h
 ·exact ⟨.inl h⟩
 ·exact ⟨.inr ⟨rs, h1.ext hb, h2.eq fun k _ hk => hb.block k hk⟩⟩
theorem L_.chg {X : Nat → Prop} (h : L_ w S B v l) (hc : Chg X w w') (hx : ∀ k ∈ S, ¬ X k) (hb : ∀ k, B k → ¬ X k) : L_ w' S B v l := by
 obtain ⟨h | ⟨rs, h1, h2⟩⟩ := h
 ·exact ⟨.inl h⟩
 ·exact ⟨.inr ⟨rs, h1.chg hc hx, h2.eq fun k h3 hk => hc.block k hk (hb k h3)⟩⟩
theorem L_.rep (h : L_ w S B v l) {B' : Zone} (hS : ∀ k ∈ S, B' k) (hb : B ≤ B') : a_ w B' v l := by
 obtain ⟨⟨ao, rfl, rfl, rfl⟩ | ⟨rs, h1, h2⟩⟩ := h
 ·exact ⟨ao, 0, rfl, Nat.le_refl _, Nat.zero_le _, fun _ => rfl, fun p _ => ⟨fun h => absurd rfl h, fun h => absurd rfl h, fun i x hx => by simp at hx⟩⟩
 obtain ⟨ao, c, hv, g1, g2, g3, g4⟩ := e_i h1 hS
 have hl := h2.1
 refine ⟨ao, c, by rw [hv, hl], by omega, by omega, fun h => ?_, fun p hp => ?_⟩
 ·have := g3 h; subst this; exact List.eq_nil_of_length_eq_zero (by simpa using hl.symm)
 ·obtain ⟨k1, k2, k3⟩ := g4 p hp
  have hne : l ≠ [] → rs ≠ [] := by rintro h rfl; exact h (List.eq_nil_of_length_eq_zero (by simpa using hl.symm))
  refine ⟨fun h => k1 (hne h), fun h => k2 (hne h), fun i x hx => ?_⟩
  obtain ⟨r, hr⟩ := f_t hl hx
  obtain ⟨cs, c1, c2⟩ := k3 i r hr
  have c3 : cs = r.cs := c2
  subst c3
  exact ⟨r.cs, c1, rep_mono (h2.2 i r x hr hx) hb⟩
theorem k_s {cs : List Value} {x : α} (h : rep w B cs x) : ∃ r : Raw α, r.cs = cs := ⟨⟨cs, rep_len h, rep_one h⟩, rfl⟩
theorem n_5 {l m : List α} {x : α} (h : psh l x = some m) {rs : List (Raw α)} (hl : rs.length = l.length) (r : Raw α) : psh rs r = some (rs ++ [r]) ∧ m = l ++ [x] := by
 unfold psh at *
 rw [hl]
 split at h
 ·rename_i h1; rw [if_pos h1]; exact ⟨rfl, (Option.some.inj h).symm⟩
 ·cases h
theorem n_6 {l m xs : List α} (h : app l xs = some m) {rs ts : List (Raw α)} (hl : rs.length = l.length) (ht : ts.length = xs.length) : app rs ts = some (rs ++ ts) ∧ m = l ++ xs := by
 unfold app at *
 rw [hl, ht]
 split at h
 ·rename_i h1; rw [if_pos h1]; exact ⟨rfl, (Option.some.inj h).symm⟩
 ·cases h
theorem b_0.app {rs ts : List (Raw α)} {xs : List α} (h : b_0 w B rs l) (k : b_0 w B ts xs) : b_0 w B (rs ++ ts) (l ++ xs) := by
 refine ⟨by simp [h.1, k.1], fun i r x a b => ?_⟩
 by_cases hi : i < rs.length
 ·rw [List.getElem?_append_left hi] at a
  rw [List.getElem?_append_left (by rw [← h.1]; exact hi)] at b
  exact h.2 i r x a b
 ·rw [List.getElem?_append_right (by omega)] at a
  rw [List.getElem?_append_right (by rw [← h.1]; omega), ← h.1] at b
  exact k.2 _ r x a b
theorem b_0.set {rs : List (Raw α)} {i : Nat} {r : Raw α} {x : α} (h : b_0 w B rs l) (hr : Dat.rep w B r.cs x) : b_0 w B (rs.set i r) (l.set i x) := by
 refine ⟨by simp [h.1], fun j q y a b => ?_⟩
 by_cases hj : i = j
 ·subst hj
  have h1 := (List.getElem?_eq_some_iff.1 a).1
  have h2 := (List.getElem?_eq_some_iff.1 b).1
  simp only [List.length_set] at h1 h2
  rw [List.getElem?_set_self h1] at a
  rw [List.getElem?_set_self h2] at b
  cases a; cases b; exact hr
 ·rw [List.getElem?_set_ne hj] at a b
  exact h.2 j q y a b
theorem b_0.slc {rs : List (Raw α)} {m : List α} {a b : Int} (h : b_0 w B rs l) (hm : slc l a b = some m) : ∃ ts, slc rs a b = some ts ∧ b_0 w B ts m := by
 unfold Vw.slc at *
 split at hm
 ·rename_i h1
  cases hm
  refine ⟨_, by rw [if_pos ⟨h1.1, h1.2.1, by rw [h.1]; exact h1.2.2⟩], by simp [h.1], fun i r x p q => ?_⟩
  rw [List.getElem?_drop, List.getElem?_take] at p q
  split at p
  ·rename_i h2; rw [if_pos h2] at q; exact h.2 _ r x p q
  ·cases p
 ·cases hm
end
section
variable {P : Program} {N : Nat} {X : Nat → Prop} {e : Env} {w : World} {dst : Option Tmp} {ty : TypeId} {pos : String} {aft : Array Edge} {gd : Option (Nat × Bool)} {x y : Operand} {T E : TypeId}
theorem n_7 {α : Type} [Dat α] {bytes : Nat} {zz : Value} (hE : El P T E (sz α) bytes zz) {B : Zone} {xs : List α} {ts : List (Raw α)} {n0 c0 : Nat} {ao0 ao1 : Option Addr} (hm : app ([] : List (Raw α)) ts = some ([] ++ ts)) (hx : ev e x = some (.slice ao1 0 0)) (hy : ev e y = some (.slice ao0 n0 c0))
  (h3 : a_ w w.heap.size (.slice ao0 n0 c0) ts) (h4 : b_0 w B ts xs) :
  Ef P N ⟨dst, .call { callee := .builtin .append, args := #[x, y], argTypes := #[T, T] }, ty, pos, aft, gd⟩ e w (fun v' w' => ∃ S' ao n c, v' = .slice ao n c ∧ Chg (· ∈ ([] : List Nat)) w w' ∧ L_ w' S' B (.slice ao n c) ([] ++ xs) ∧ S'.Nodup ∧ (∀ k ∈ S', k ∈ ([] : List Nat) ∨ w.heap.size ≤ k)) := by
 obtain ⟨_, hl⟩ := appS hm
 have hLIM : LIM = 4294967296 := rfl
 have hLEN : LEN = 140737488355328 := rfl
 have hsm := hE.small
 obtain ⟨ao', c', he, g1, g2, g3, g4⟩ := h3
 simp only [Value.slice.injEq] at he
 obtain ⟨rfl, rfl, rfl⟩ := he
 obtain ⟨i, hi, hz, hsz, hbz⟩ := info_parts hE.info
 have hszR : i.size = sz (Raw α) := hsz
 constructor
 intro a ha Q
 have hx' := ha.ev hx
 have hy' := ha.ev hy
 unfold Oper.wp
 have fin : ∀ v' w', (Builtin.append_ #[T, T] ty #[.slice ao1 0 0, .slice ao0 ts.length c0]).run P w = .ok v' w' → (execOp a.eval ⟨dst, .call { callee := .builtin .append, args := #[x, y], argTypes := #[T, T] }, ty, pos, aft, gd⟩).run P w = .ok (.value v') w' := by
  intro v' w' h
  simp [execOp, resolve, invoke, builtin, hx', hy', h]
 by_cases h0 : ts = []
 ·subst h0
  have hxs : xs = [] := List.eq_nil_of_length_eq_zero (by simpa using h4.1.symm)
  subst hxs
  have hr : (Builtin.append_ #[T, T] ty #[.slice ao1 0 0, .slice ao0 ([] : List (Raw α)).length c0]).run P w = .ok (.slice ao1 0 0) w := by
   cases ao1 <;> cases ao0 <;> simp [Builtin.append_, run_underlying hE.sl, sizeOf, typeInfo, hi, Builtin.lenOf, Builtin.firstCells, storeCells, loadCells, loadCellsFrom]
  rw [fin _ _ hr]
  exact ⟨_, rfl, [], ao1, 0, 0, rfl, Chg.refl _ _, ⟨.inl ⟨ao1, rfl, rfl, rfl⟩⟩, K_, fun k hk => by cases hk⟩
 ·have hpos : 0 < ts.length := by cases ts with | nil => exact absurd rfl h0 | cons a t => simp
  cases hao : ao0 with
  | none => exact absurd (g3 hao) h0
  | some p =>
   obtain ⟨k1, _, k3⟩ := g4 p hao
   obtain ⟨news, n1, n2, n3⟩ := l_h ts k3
   subst hao
   simp at hl
   have hby : (0 + ts.length) * i.bytes ≤ 140737488355328 := by
    rw [hbz]
    have := Nat.mul_le_mul (show 0 + ts.length ≤ 4294967296 by omega) hsm
    omega
   -- as onto nil, but that the old row may have an address
   have hr : ∃ v' w', (Builtin.append_ #[T, T] ty #[.slice ao1 0 0, .slice (some p) ts.length c0]).run P w = .ok v' w' ∧ App w w' 0 ts.length (sz (Raw α)) (.slice none 0 0) v' news := by
    have hn' : ∀ j u, news[j]? = some u → w.cell? (p.add j) = some u := fun j u hu => by
     have hsp := k1 h0
     have hpe : p = ⟨p.block, p.off, none⟩ := by cases p; simp only at hsp; rw [hsp]
     rw [hpe, Addr.add_lit]; exact n2 j u hu
    have hge := grownCap_ge w ts.length 0 E
    have fin2 : Blk (w.drew.alloc (.cells (news.toArray ++ Builtin.zeroCells zz.cells (grownCap w ts.length 0 E - ts.length)) E)) w.heap.size ([] ++ news ++ (Builtin.zeroCells zz.cells (grownCap w ts.length 0 E - ts.length)).toList) := by
     have := alloc_blk' w.drew (news.toArray ++ Builtin.zeroCells zz.cells (grownCap w ts.length 0 E - ts.length)) E
     simpa using this
    have fin3 : ([] ++ news ++ (Builtin.zeroCells zz.cells (grownCap w ts.length 0 E - ts.length)).toList).length = grownCap w ts.length 0 E * sz (Raw α) := by
     simp only [List.nil_append, List.length_append, n1, Array.length_toList, size_zeroCells, hE.zlen]
     have : sz (Raw α) = sz α := rfl
     rw [this, ← Nat.add_mul]; congr 1; omega
    cases ao1 with
    | none =>
     have hr := run_append_nil (P := P) w T ty E i zz hE.sl hi hz p ts.length c0 news (by rw [hszR]; exact n1) hn' hpos (by omega) (by have := hby; simp only [Nat.zero_add] at this; omega)
     exact ⟨_, _, hr, .grown (grownCap w ts.length 0 E) [] _ (by simp) (by simpa using hge) fin2 fin3 (by simp) (fun g c cur h => by cases h) (Below.trans (d_Y w) (a_B w.drew _))⟩
    | some q =>
     have hr := run_append_grow (P := P) w T ty E i zz hE.sl hi hz q 0 0 [] (by simp) (fun j v hv => by simp at hv) p ts.length c0 news (by rw [hszR]; exact n1) hn' (by omega) (by omega) (growslice_fits (by omega) hby)
     simp only [Nat.zero_add] at hr
     refine ⟨_, _, hr, .grown (grownCap w ts.length 0 E) [] (Builtin.zeroCells zz.cells (grownCap w ts.length 0 E - ts.length)).toList (by simp) (by simpa using hge) ?_ fin3 (by simp) (fun g c cur h => by cases h) (Below.trans (d_Y w) (a_B w.drew _))⟩
     simpa using fin2
   obtain ⟨v', w', hr, happ⟩ := hr
   rw [fin _ _ hr]
   obtain ⟨S', q1, q2, q3, q4⟩ := l_i (α := Raw α) (S := []) (l := []) (xs := ts) (Ts := List.replicate ts.length []) (j_3 w) K_ n1 (by simp) (fun i z Ti hz hT => by
    have : Ti = [] := by
     have := (List.getElem?_eq_some_iff.1 hT).2
     simpa using this.symm
    subst this
    exact ⟨rfl, n3 i z hz⟩) (by simp) (by simp) (by simp; omega) happ
   have hch := q3
   rw [List.nil_append] at q1
   have he : ∀ k, B k → k < w.heap.size → w'.heap[k]? = w.heap[k]? := fun k hk hk' => q3.block k hk' (by simp)
   obtain ⟨ao, c, hv, _⟩ := (q1.rep)
   subst hv
   exact ⟨_, rfl, S', ao, _, c, rfl, q3, ⟨.inr ⟨ts, q1, by rw [List.nil_append]; exact h4.eq he⟩⟩, q2, fun k hk => (q4 k hk).elim .inl fun h => .inr (h.elim (fun h => by simp at h) fun h => Nat.le_of_eq h.symm)⟩
theorem r_h {α : Type} [Dat α] {bytes : Nat} {zz : Value} (hE : El P T E (sz α) bytes zz) {B : Zone} {ao0 : Option Addr} {m : List α} {v : α} {g : Nat} {cs : List Value} (hm : psh ([] : List α) v = some m) (hx : ev e x = some (.slice ao0 0 0)) (hy : ev e y = some (.slice (some ⟨g, 0, none⟩) 1 1))
  (hB : Blk w g cs) (hv : rep w B cs v) :
  Ef P N ⟨dst, .call { callee := .builtin .append, args := #[x, y], argTypes := #[T, T] }, ty, pos, aft, gd⟩ e w (fun v' w' => ∃ S' ao n c, v' = .slice ao n c ∧ Chg (· ∈ ([] : List Nat)) w w' ∧ L_ w' S' B (.slice ao n c) m ∧ S'.Nodup ∧ (∀ k ∈ S', k ∈ ([] : List Nat) ∨ w.heap.size ≤ k)) := by
 obtain ⟨r, rfl⟩ := k_s hv
 obtain ⟨_, rfl⟩ := n_5 hm (rs := ([] : List (Raw α))) rfl r
 refine n_7 hE (ts := [r]) (xs := [v]) (by unfold app; rw [if_pos (by simp [LIM])]) hx hy ?_ ⟨rfl, fun i q z a b => ?_⟩
 ·refine ⟨some ⟨g, 0, none⟩, 1, rfl, Nat.le_refl _, by simp [LEN], fun h => (by cases h), fun p hp => ?_⟩
  cases hp
  refine ⟨fun _ => rfl, fun _ => hB.lt, fun i z hz => ?_⟩
  cases i with
  | succ i => simp at hz
  | zero =>
   simp only [List.getElem?_cons_zero, Option.some.injEq] at hz
   subst hz
   refine ⟨r.cs, ?_, rfl⟩
   have := hB.cells 0 r.cs.length
   simpa using this
 ·cases i with
  | zero => cases a; cases b; exact hv
  | succ i => simp at a
theorem h_U {α : Type} [Dat α] {bytes : Nat} {zz : Value} (hE : El P T E (sz α) bytes zz) {S : List Nat} {B : Zone} {sv : Value} {l m : List α} {v : α} {g : Nat} {cs : List Value} (hm : psh l v = some m) (hx : ev e x = some sv) (hy : ev e y = some (.slice (some ⟨g, 0, none⟩) 1 1))
  (ho : L_ w S B sv l) (hN : S.Nodup) (hB : Blk w g cs) (hv : rep w B cs v) (hS : ∀ k ∈ S, ¬ B k) :
  Ef P N ⟨dst, .call { callee := .builtin .append, args := #[x, y], argTypes := #[T, T] }, ty, pos, aft, gd⟩ e w (fun v' w' => ∃ S' ao n c, v' = .slice ao n c ∧ Chg (· ∈ S) w w' ∧ L_ w' S' B (.slice ao n c) m ∧ S'.Nodup ∧ (∀ k ∈ S', k ∈ S ∨ w.heap.size ≤ k)) := by
 obtain ⟨⟨ao0, rfl, rfl, rfl⟩ | ⟨rs, h1, h2⟩⟩ := ho
 ·exact r_h hE hm hx hy hB hv
 obtain ⟨r, rfl⟩ := k_s hv
 obtain ⟨hp, rfl⟩ := n_5 hm h2.1 r
 have h := b_d (α := Raw α) (P := P) (N := N) (dst := dst) (ty := ty) (pos := pos) (aft := aft) (gd := gd) hE hp hx hy h1 hN hB (show own w [] r.cs r from ⟨rfl, rfl⟩) all_nil K_
 constructor
 intro a ha Q
 refine Oper.wp_mono ?_ (h.run a ha Q)
 rintro a' w' ⟨v', rfl, S', ao, n, c, rfl, k1, k2, k3, k4⟩
 refine ⟨_, rfl, S', ao, n, c, rfl, k1, ⟨.inr ⟨_, k2, ?_⟩⟩, k3, fun k hk => (k4 k hk).elim .inl fun h => .inr (h.elim (fun h => by cases h) id)⟩
 have he : ∀ k, B k → k < w.heap.size → w'.heap[k]? = w.heap[k]? := fun k hk hk' => k1.block k hk' fun hm => hS k hm hk
 refine (h2.eq he).app ⟨rfl, fun i q z a b => ?_⟩
 cases i with
 | zero => cases a; cases b; exact rep_eq hv he
 | succ i => simp at a
theorem r_i {α : Type} [Dat α] {S : List Nat} {B : Zone} {g n c : Nat} {ao : Option Addr} {i : Int} {l m : List α} {v : α} {u : Value} {cs : List Value} {sz' : Nat} (hs : ∀ w, (sizeOf T).run P w = .ok sz' w) (hsz : sz' = sz α) (hao : ao = some ⟨g, 0, none⟩) (hx : ev e x = some (.pointer (some ⟨g, 0 + i.toNat * sz', none⟩))) (hy : ev e y = some u) (hu : u.cells.toList = cs)
  (hm : upd l i v = some m) (ho : L_ w S B (.slice ao n c) l) (hN : S.Nodup) (hv : rep w B cs v) (hS : ∀ k ∈ S, ¬ B k) :
  Ef P N ⟨none, .store T x y, ty, pos, aft, gd⟩ e w (fun _ w' => ∃ S', Chg (· ∈ S) w w' ∧ L_ w' S' B (.slice ao n c) m ∧ S'.Nodup ∧ (∀ k ∈ S', k ∈ S ∨ w.heap.size ≤ k)) := by
 obtain ⟨⟨ao0, _, rfl, rfl⟩ | ⟨rs, h1, h2⟩⟩ := ho
 ·obtain ⟨_, h0, h1⟩ := d_U hm
  simp at h1; omega
 obtain ⟨r, hrc⟩ := k_s hv
 obtain ⟨rfl, hi0, hi1⟩ := d_U hm
 have hp : upd rs i r = some (rs.set i.toNat r) := by
  unfold upd at hm ⊢
  rw [h2.1]
  split at hm
  ·rename_i h; rw [if_pos h]
  ·cases hm
 have h := c_E (α := Raw α) (P := P) (N := N) (ty := ty) (pos := pos) (aft := aft) (gd := gd) hs hsz hao hx hy hu hp h1 hN (show own w [] cs r from ⟨rfl, hrc.symm⟩) all_nil K_
 constructor
 intro a ha Q
 refine Oper.wp_mono ?_ (h.run a ha Q)
 rintro a' w' ⟨v', rfl, S', k1, k2, k3, k4⟩
 have he : ∀ k, B k → k < w.heap.size → w'.heap[k]? = w.heap[k]? := fun k hk hk' => k1.block k hk' fun hm => hS k hm hk
 exact ⟨v', rfl, S', k1, ⟨.inr ⟨_, k2, (h2.eq he).set (hrc ▸ rep_eq hv he)⟩⟩, k3, fun k hk => (k4 k hk).elim .inl fun h => .inr (h.elim (fun h => by cases h) id)⟩
theorem r_j {α : Type} [Dat α] {bytes : Nat} {zz : Value} (hE : El P T E (sz α) bytes zz) {S : List Nat} {B : Zone} {sv : Value} {l m xs : List α} {n0 c0 : Nat} {ao0 : Option Addr} (hm : app l xs = some m) (hx : ev e x = some sv) (hy : ev e y = some (.slice ao0 n0 c0))
  (ho : L_ w S B sv l) (hN : S.Nodup) (hr : rwS w B (.slice ao0 n0 c0) xs) (hS : ∀ k ∈ S, ¬ B k) :
  Ef P N ⟨dst, .call { callee := .builtin .append, args := #[x, y], argTypes := #[T, T] }, ty, pos, aft, gd⟩ e w (fun v' w' => ∃ S' ao n c, v' = .slice ao n c ∧ Chg (· ∈ S) w w' ∧ L_ w' S' B (.slice ao n c) m ∧ S'.Nodup ∧ (∀ k ∈ S', k ∈ S ∨ w.heap.size ≤ k)) := by
 obtain ⟨ts, h3, h4⟩ := hr
 obtain ⟨⟨ao1, rfl, rfl, rfl⟩ | ⟨rs, h1, h2⟩⟩ := ho
 ·obtain ⟨hp, rfl⟩ := n_6 (rs := ([] : List (Raw α))) hm rfl h4.1
  exact n_7 hE hp hx hy h3 h4
 obtain ⟨hp, rfl⟩ := n_6 hm h2.1 h4.1
 have h := h_d (α := Raw α) (P := P) (N := N) (dst := dst) (ty := ty) (pos := pos) (aft := aft) (gd := gd) hE hp hx hy h1 hN h3
 constructor
 intro a ha Q
 refine Oper.wp_mono ?_ (h.run a ha Q)
 rintro a' w' ⟨v', rfl, S', ao, n, c, rfl, k1, k2, k3, k4⟩
 have he : ∀ k, B k → k < w.heap.size → w'.heap[k]? = w.heap[k]? := fun k hk hk' => k1.block k hk' fun hm => hS k hm hk
 exact ⟨_, rfl, S', ao, n, c, rfl, k1, ⟨.inr ⟨_, k2, (h2.eq he).app (h4.eq he)⟩⟩, k3, k4⟩
theorem r_k {α : Type} [Dat α] {S : List Nat} {B : Zone} {n c sz' : Nat} {ao : Option Addr} {l m : List α} {a b : Int} {lo hi : Option Operand} (hT : P.underlying T = some (.slice E)) (hs : ∀ w, (sizeOf E).run P w = .ok sz' w) (hsz : sz' = sz α) (hx : ev e x = some (.slice ao n c)) (h : L_ w S B (.slice ao n c) l)
  (hlo : evo e lo 0 a) (hhi : evo e hi l.length b) (hm : slc l a b = some m) :
  ∃ v, Rd X P N ⟨dst, .slice T x lo hi none, ty, pos, aft, gd⟩ e w v ∧ ∃ ao' n' c', v = .slice ao' n' c' ∧ rwS w B (.slice ao' n' c') m := by
 obtain ⟨⟨ao1, he, rfl, rfl⟩ | ⟨rs, h1, h2⟩⟩ := h
 ·cases he
  obtain ⟨q1, q2, q3, q4⟩ := e_p hm
  have hm' : slc ([] : List (Raw α)) a b = some [] := by
   unfold slc; rw [if_pos ⟨q1, q2, by simpa using q3⟩]; simp
  obtain rfl : m = [] := by rw [q4]; simp
  have h0 : a_ w w.heap.size (.slice ao 0 0) ([] : List (Raw α)) := ⟨ao, 0, rfl, Nat.le_refl _, Nat.zero_le _, fun _ => rfl, fun p _ => ⟨fun h => absurd rfl h, fun h => absurd rfl h, fun i x hx => by simp at hx⟩⟩
  obtain ⟨v, k1, ao', n', c', rfl, k2⟩ := f_l (α := Raw α) (X := X) (P := P) (N := N) (w := w) (dst := dst) (ty := ty) (pos := pos) (aft := aft) (gd := gd) hT hs hsz hx h0 hlo hhi hm'
  exact ⟨_, k1, ao', n', c', rfl, ⟨⟨[], k2, rfl, fun i r x a => by simp at a⟩⟩⟩
 obtain ⟨ts, h3, h4⟩ := h2.slc hm
 obtain ⟨v, k1, ao', n', c', rfl, k2⟩ := f_l (α := Raw α) (X := X) (P := P) (N := N) (w := w) (dst := dst) (ty := ty) (pos := pos) (aft := aft) (gd := gd) hT hs hsz hx (e_i h1 (b_.lt h1)) hlo (by rw [h2.1]; exact hhi) h3
 exact ⟨_, k1, ao', n', c', rfl, ⟨⟨ts, k2, h4⟩⟩⟩
theorem r_l (ao : Option Addr) (k : Nat) : ao.map (·.add (0 * k)) = ao := by
 cases ao with
 | none => rfl
 | some p => simp [Addr.add]
theorem r_m {α : Type} [Dat α] [a_g α] {S : List Nat} {n c sz' : Nat} {ao : Option Addr} {l m : List α} {b : Int} {hi : Option Operand} (hT : P.underlying T = some (.slice E)) (hs : ∀ w, (sizeOf E).run P w = .ok sz' w) (hx : ev e x = some (.slice ao n c)) (h : b_ w S (.slice ao n c) l)
  (hhi : evo e hi l.length b) (hm : slc l 0 b = some m) :
  ∃ v, Rd X P N ⟨dst, .slice T x none hi none, ty, pos, aft, gd⟩ e w v ∧ ∃ n', v = .slice ao n' c ∧ b_ w S (.slice ao n' c) m := by
 obtain ⟨g1, g2, g3, he⟩ := e_p hm
 have hml := l_3 hm
 obtain ⟨_, _, hv, k1, k2, _⟩ := h.rep
 simp only [Value.slice.injEq] at hv
 obtain ⟨rfl, rfl, rfl⟩ := hv
 refine ⟨.slice ao b.toNat c, ?_, _, rfl, ?_⟩
 ·intro act ha w' _
  have hsl : (Instr.sliceAt T (.slice ao l.length c) none (hi.map act.eval) none).run P w' = .ok (.slice ao b.toNat c) w' := by
   have hb : ∀ code, (Instr.sliceBound (vI b) c code).run P w' = .ok b.toNat w' := fun code => run_sliceBound w' .i64 b c code (by omega) (by omega)
   have hbs : (Instr.sliceBounds true l.length c none (hi.map act.eval) none).run P w' = .ok (0, b.toNat, c) w' := by
    cases hi with
    | none =>
     obtain rfl : b = (l.length : Int) := hhi
     simp [Instr.sliceBounds]
    | some y => simp [Instr.sliceBounds, ha.ev hhi, hb]
   have := r_l ao sz'
   simp [Instr.sliceAt, run_underlying hT, Instr.slice, hbs, hs]
   intro _
   simpa using this
  simp only [execOp, ha.ev hx, Option.map_none, Sem.run_bind, hsl, Result.andThen_ok]
  rfl
 ·have hmn : b.toNat = m.length := by omega
  rw [hmn]
  rcases h with ⟨h1, rfl, h2⟩ | ⟨g, c', cur, Ss, h1, h2, h3, h4, h5, h6, h7, h8⟩
  ·have : m = [] := List.eq_nil_of_length_eq_zero (by simp at g3; omega)
   subst this
   exact .inl ⟨by simpa using h1, rfl, h2⟩
  ·simp only [Value.slice.injEq] at h1
   obtain ⟨rfl, _, rfl⟩ := h1
   refine .inr ⟨g, c, cur, Ss.take m.length, rfl, by omega, by omega, h4, h5, ?_, by simp; omega, fun i z Si a b' => ?_⟩
   ·rw [h6]
    have hz : ∀ L ∈ Ss, L = [] := fun L hL => by
     obtain ⟨i, hi'⟩ := List.getElem?_of_mem hL
     obtain ⟨z, hz⟩ := zip_some' h7 hi'
     exact a_g.none (h8 i z L hz hi')
    have e1 : List.flatten Ss = [] := List.flatten_eq_nil_iff.2 hz
    have e2 : List.flatten (Ss.take m.length) = [] := List.flatten_eq_nil_iff.2 fun L hL => hz L (List.mem_of_mem_take hL)
    rw [e1, e2]
   ·have hil := (List.getElem?_eq_some_iff.1 a).1
    rw [List.getElem?_take, if_pos hil] at b'
    refine h8 i z Si ?_ b'
    rw [he] at a
    simp only [Int.toNat_zero, List.drop_zero] at a
    rw [List.getElem?_take] at a
    split at a
    ·exact a
    ·cases a
theorem r_n {α : Type} [Dat α] {S : List Nat} {B : Zone} {n c sz' : Nat} {ao : Option Addr} {l m : List α} {b : Int} {hi : Option Operand} (hT : P.underlying T = some (.slice E)) (hs : ∀ w, (sizeOf E).run P w = .ok sz' w) (hx : ev e x = some (.slice ao n c)) (h : L_ w S B (.slice ao n c) l)
  (hhi : evo e hi l.length b) (hm : slc l 0 b = some m) :
  ∃ v, Rd X P N ⟨dst, .slice T x none hi none, ty, pos, aft, gd⟩ e w v ∧ ∃ n', v = .slice ao n' c ∧ L_ w S B (.slice ao n' c) m := by
 obtain ⟨⟨ao1, he, rfl, rfl⟩ | ⟨rs, h1, h2⟩⟩ := h
 ·cases he
  obtain ⟨g1, g2, g3, he⟩ := e_p hm
  simp at g3
  have hb : b = 0 := by omega
  subst hb
  simp at he; subst he
  refine ⟨.slice ao 0 0, ?_, 0, rfl, ⟨.inl ⟨ao, rfl, rfl, rfl⟩⟩⟩
  intro act ha w' _
  have hsl : (Instr.sliceAt T (.slice ao 0 0) none (hi.map act.eval) none).run P w' = .ok (.slice ao 0 0) w' := by
   have hb : ∀ code, (Instr.sliceBound (vI 0) 0 code).run P w' = .ok 0 w' := fun code => run_sliceBound w' .i64 0 0 code (by omega) (by omega)
   have hbs : (Instr.sliceBounds true 0 0 none (hi.map act.eval) none).run P w' = .ok (0, 0, 0) w' := by
    cases hi with
    | none => simp [Instr.sliceBounds]
    | some y => simp [Instr.sliceBounds, ha.ev hhi, hb]
   simp [Instr.sliceAt, run_underlying hT, Instr.slice, hbs, hs]
  simp only [execOp, ha.ev hx, Option.map_none, Sem.run_bind, hsl, Result.andThen_ok]
  rfl
 obtain ⟨ts, h3, h4⟩ := h2.slc hm
 obtain ⟨v, k1, n', rfl, k2⟩ := r_m (α := Raw α) (X := X) (P := P) (N := N) (w := w) (dst := dst) (ty := ty) (pos := pos) (aft := aft) (gd := gd) hT hs hx h1 (by rw [h2.1]; exact hhi) h3
 exact ⟨_, k1, n', rfl, ⟨.inr ⟨ts, k2, h4⟩⟩⟩
theorem r_o {α : Type} [Dat α] {ao : Option Addr} {B : Zone} {n c sz' : Nat} {S : List Nat} {l m : List α} {i : Int} {v : α} {kk : IntKind} (hT : P.underlying T = some (.slice E)) (hs : ∀ w, (sizeOf E).run P w = .ok sz' w) (hx : ev e x = some (.slice ao n c)) (hy : ev e y = some (.int kk i)) (hr : L_ w S B (.slice ao n c) l) (hi : upd l i v = some m) :
  ∃ u, Rd X P N ⟨dst, .indexAddr T x y, ty, pos, aft, gd⟩ e w u ∧ ∃ g, ao = some ⟨g, 0, none⟩ ∧ u = .pointer (some ⟨g, 0 + i.toNat * sz', none⟩) := by
 obtain ⟨_, h0, h1⟩ := d_U hi
 obtain ⟨⟨_, _, rfl, _⟩ | ⟨rs, hr, h2⟩⟩ := hr
 ·simp at h1; omega
 have hl := h2.1
 obtain ⟨g, rfl⟩ := hr.head (by omega)
 obtain ⟨_, _, he, _⟩ := hr.rep
 cases he
 exact ⟨_, h_l (k := kk) hT hs hx hy h0 (by omega), g, rfl, rfl⟩
theorem n_8 {α : Type} [Dat α] {bytes : Nat} {zz : Value} (hE : El P T E (sz α) bytes zz) (B : Zone) :
  Ef P N ⟨dst, .buildSlice T 0 #[], ty, pos, aft, gd⟩ e w (fun v w' => ∃ ao, v = .slice ao 0 0 ∧ Below w.heap.size w w' ∧ L_ w' [] B (.slice ao 0 0) ([] : List α)) := by
 have h := l_0 (P := P) (N := N) (e := e) (w := w) (dst := dst) (ty := ty) (pos := pos) (aft := aft) (gd := gd) hE
 constructor
 intro a ha Q
 refine Oper.wp_mono ?_ (h.run a ha Q)
 rintro a' w' ⟨v', rfl, rfl, k⟩
 exact ⟨_, rfl, _, rfl, k.below, ⟨.inl ⟨_, rfl, rfl, rfl⟩⟩⟩
end
end Go.Vw
