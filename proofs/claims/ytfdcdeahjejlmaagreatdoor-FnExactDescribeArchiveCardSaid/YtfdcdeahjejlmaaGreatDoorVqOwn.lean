import Derived.Test.YtfdcdeahjejlmaaGreatDoorVqOps
set_option linter.unusedVariables false
namespace Go.Vw
open Go.RowKit Dat
class a_g (α : Type) [Dat α] : Prop where
 flat : ∀ {w : World} {B : Zone} {cs : List Value} {x : α}, rep w B cs x → own w [] cs x
 none : ∀ {w : World} {S : List Nat} {cs : List Value} {x : α}, own w S cs x → S = []
instance : a_g Int := ⟨fun h => ⟨rfl, h⟩, fun h => h.1⟩
instance : a_g Bool := ⟨fun h => ⟨rfl, h⟩, fun h => h.1⟩
instance : a_g UInt8 := ⟨fun h => ⟨rfl, h⟩, fun h => h.1⟩
instance : a_g Str := ⟨fun h => ⟨rfl, h⟩, fun h => h.1⟩
instance {α β : Type} [Dat α] [Dat β] [a_g α] [a_g β] : a_g (α × β) :=
 ⟨fun ⟨c, d, he, h1, h2⟩ => ⟨c, d, [], [], he, rfl, a_g.flat h1, a_g.flat h2⟩, fun ⟨_, _, S1, S2, _, hS, h1, h2⟩ => by
  rw [hS, a_g.none h1, a_g.none h2]; rfl⟩
def W_ (n i : Nat) (l : List Value) : List Value := (l.drop (i * n)).take n
theorem d_t {n i k : Nat} {l r : List Value} (h : l.length = k * n) (hi : i < k) : W_ n i (l ++ r) = W_ n i l := by
 unfold W_
 have h1 : (i + 1) * n ≤ k * n := Nat.mul_le_mul_right n hi
 rw [Nat.succ_mul] at h1
 rw [List.drop_append_of_le_length (by omega), List.take_append_of_le_length (by simp; omega)]
theorem f_x {n i k : Nat} {l r : List Value} (h : l.length = k * n) (hi : k ≤ i) : W_ n i (l ++ r) = W_ n (i - k) r := by
 unfold W_
 have h1 : k * n ≤ i * n := Nat.mul_le_mul_right n hi
 rw [List.drop_append, List.drop_of_length_le (by omega), List.nil_append, h, Nat.sub_mul]
theorem j_H {n i k : Nat} {l : List Value} (hi : i < k) : W_ n i (l.take (k * n)) = W_ n i l := by
 unfold W_
 have h1 : (i + 1) * n ≤ k * n := Nat.mul_le_mul_right n hi
 rw [Nat.succ_mul] at h1
 rw [List.drop_take, List.take_take]
 congr 1
 omega
theorem h_q (l : List Value) (n : Nat) (h : l.length = n) : W_ n 0 l = l := by
 unfold W_; simp [← h]
theorem repS_row' {α : Type} [Dat α] {w : World} {B : Zone} {p : Addr} (xs : List α) (h : ∀ (i : Nat) (x : α), xs[i]? = some x → ∃ cs, M_ w p.block (p.off + i * sz α) cs ∧ rep w B cs x) : ∀ k, k ≤ xs.length →
  ∃ news, news.length = k * sz α ∧ M_ w p.block p.off news ∧ ∀ (i : Nat) (x : α), i < k → xs[i]? = some x → rep w B (W_ (sz α) i news) x
 | 0, _ => ⟨[], by simp, fun j v hv => by simp at hv, fun i x hi => absurd hi (Nat.not_lt_zero _)⟩
 | k + 1, hk => by
  obtain ⟨news, h1, h2, h3⟩ := repS_row' xs h k (by omega)
  have hkl : k < xs.length := by omega
  obtain ⟨cs, g1, g2⟩ := h k xs[k] (by simp)
  have hl := rep_len g2
  refine ⟨news ++ cs, by simp [h1, hl, Nat.succ_mul], ?_, ?_⟩
  ·intro j v hv
   by_cases hj : j < news.length
   ·rw [List.getElem?_append_left hj] at hv; exact h2 j v hv
   ·rw [List.getElem?_append_right (by omega)] at hv
    have := g1 _ _ hv
    rw [h1] at this hj
    have he : p.off + k * sz α + (j - k * sz α) = p.off + j := by omega
    rwa [he] at this
  ·intro i y hik hy
   by_cases hi : i < k
   ·rw [d_t h1 hi]
    exact h3 i y hi hy
   ·have hi' : i = k := by omega
    subst hi'
    rw [f_x h1 (Nat.le_refl _), Nat.sub_self, h_q cs _ hl]
    rw [List.getElem?_eq_getElem hkl, Option.some.injEq] at hy
    subst hy
    exact g2
theorem l_h {α : Type} [Dat α] {w : World} {B : Zone} {p : Addr} (xs : List α) (h : ∀ (i : Nat) (x : α), xs[i]? = some x → ∃ cs, M_ w p.block (p.off + i * sz α) cs ∧ rep w B cs x) :
  ∃ news, news.length = xs.length * sz α ∧ M_ w p.block p.off news ∧ ∀ (i : Nat) (x : α), xs[i]? = some x → rep w B (W_ (sz α) i news) x := by
 obtain ⟨news, h1, h2, h3⟩ := repS_row' xs h xs.length (Nat.le_refl _)
 exact ⟨news, h1, h2, fun i x hx => h3 i x (List.getElem?_eq_some_iff.1 hx).1 hx⟩
structure El (P : Program) (T E n bytes : Nat) (z : Value) : Prop where
 sl : P.underlying T = some (.slice E)
 info : (P.info? E).map (fun i => (i.zero, i.size, i.bytes)) = some (some z, n, bytes)
 zlen : z.cells.size = n
 pos : 0 < n
 small : bytes ≤ 32768
theorem El.sm {P : Program} {T E n bytes : Nat} {z : Value} (h : El P T E n bytes z) : Nat.ble bytes 32768 = true := Nat.ble_eq_true_of_le h.small
inductive App (w w' : World) (n m sz : Nat) (sv v' : Value) (news : List Value) : Prop
 | same (hm : m = 0) (hv : v' = sv) (hw : w' = w)
 | place (g c : Nat) (cur : List Value) (hs : sv = .slice (some ⟨g, 0, none⟩) n c) (hv : v' = .slice (some ⟨g, 0, none⟩) (n + m) c) (hc : n + m ≤ c) (hb : Blk w g cur) (hl : cur.length = c * sz) (hb' : Blk w' g (cur.take (n * sz) ++ news ++ cur.drop (n * sz + m * sz))) (ch : Chg (· = g) w w')
 | grown (c : Nat) (olds zs : List Value) (hv : v' = .slice (some ⟨w.heap.size, 0, none⟩) (n + m) c) (hc : n + m ≤ c) (hb' : Blk w' w.heap.size (olds ++ news ++ zs)) (hl : (olds ++ news ++ zs).length = c * sz) (ho : olds.length = n * sz)
   (hold : ∀ g c cur, sv = .slice (some ⟨g, 0, none⟩) n c → Blk w g cur → cur.length = c * sz → n ≤ c → olds = cur.take (n * sz)) (hb : Below w.heap.size w w')
theorem Blk.uniq {w : World} {g : Nat} {l l' : List Value} (h : Blk w g l) (h' : Blk w g l') : l = l' := by
 obtain ⟨T, fr, h, _⟩ := h
 obtain ⟨T', fr', h', _⟩ := h'
 have := h.symm.trans h'
 simp at this
 exact this.1
theorem d_Y (w : World) : Below w.heap.size w w.drew := ⟨rfl, rfl, rfl, Nat.le_refl _, fun _ _ => rfl⟩
theorem p_m {P : Program} {T E sz bytes : Nat} {z : Value} (hE : El P T E sz bytes z) (w : World) (ty : TypeId) {n : Nat} {sv : Value}
  (hs : (sv = .slice none 0 0 ∧ n = 0) ∨ ∃ g c cur, sv = .slice (some ⟨g, 0, none⟩) n c ∧ n ≤ c ∧ Blk w g cur ∧ cur.length = c * sz)
  {p : Addr} {m c' : Nat} {news : List Value} (hp : news ≠ [] → p.spot = none) (hl : news.length = m * sz) (hn : M_ w p.block p.off news) (h1 : ∀ u ∈ news, u.oneCell' = true)
  (hlen : n + m ≤ LEN) (hby : (n + m) * bytes ≤ 140737488355328) :
  ∃ v' w', (Builtin.append_ #[T, T] ty #[sv, .slice (some p) m c']).run P w = .ok v' w' ∧ App w w' n m sz sv v' news := by
 obtain ⟨i, hi, hz, rfl, rfl⟩ := info_parts hE.info
 have hn' : ∀ j u, news[j]? = some u → w.cell? (p.add j) = some u := fun j u hu => by
  have hsp := hp (by rintro rfl; simp at hu)
  have hpe : p = ⟨p.block, p.off, none⟩ := by cases p; simp only at hsp; rw [hsp]
  rw [hpe, Addr.add_lit]; exact hn j u hu
 have hL := H_
 rcases hs with ⟨rfl, rfl⟩ | ⟨g, c, cur, rfl, hnc, hB, hcl⟩
 ·by_cases hm : m = 0
  ·subst hm
   have hnil : news = [] := List.eq_nil_of_length_eq_zero (by simpa using hl)
   subst hnil
   refine ⟨.slice none 0 0, w, ?_, .same rfl rfl rfl⟩
   simp [Builtin.append_, run_underlying hE.sl, sizeOf, typeInfo, hi, Builtin.lenOf, Builtin.firstCells, loadCells, loadCellsFrom]
  ·have hr := run_append_nil (P := P) w T ty E i z hE.sl hi hz p m c' news hl hn' (by omega) (by omega) (by have := hby; simp only [Nat.zero_add] at this; omega)
   have hge := grownCap_ge w m 0 E
   refine ⟨_, _, hr, .grown (grownCap w m 0 E) [] (Builtin.zeroCells z.cells (grownCap w m 0 E - m)).toList (by simp) (by simpa using hge) ?_ ?_ (by simp) (fun g c cur h => by cases h) ?_⟩
   ·have := alloc_blk' w.drew (news.toArray ++ Builtin.zeroCells z.cells (grownCap w m 0 E - m)) E
    simpa using this
   ·simp only [List.nil_append, List.length_append, hl, Array.length_toList, size_zeroCells, hE.zlen, ← Nat.add_mul]
    congr 1; omega
   ·exact Below.trans (d_Y w) (a_B w.drew _)
 ·by_cases hroom : n + m ≤ c
  ·obtain ⟨w', hst, hb', hch⟩ := f_r (P := P) (o := n * i.size) news 0 w cur hB (by rw [hl, hcl, Nat.add_zero, ← Nat.add_mul]; exact Nat.mul_le_mul_right _ hroom) h1
   have hf := run_firstCells_some (P := P) w i.size m p m c' news hl hn'
   refine ⟨.slice (some ⟨g, 0, none⟩) (n + m) c, w', ?_, .place g c cur rfl rfl hroom hB hcl (by simpa [hl] using hb') hch⟩
   simp [Builtin.append_, run_underlying hE.sl, sizeOf, typeInfo, hi, Builtin.lenOf, hroom, hf, Addr.add_lit, hst]
  ·have holds : ∀ j v, (cur.take (n * i.size))[j]? = some v → w.cell? ((⟨g, 0, none⟩ : Addr).add j) = some v := fun j v hv => by
    rw [Addr.add_lit, Nat.zero_add, hB.cell]
    rw [List.getElem?_take] at hv
    split at hv
    ·exact hv
    ·cases hv
   have hle : n * i.size ≤ cur.length := by rw [hcl]; exact Nat.mul_le_mul_right _ hnc
   have hr := run_append_grow (P := P) w T ty E i z hE.sl hi hz ⟨g, 0, none⟩ n c (cur.take (n * i.size)) (by simp [hle]) holds p m c' news hl hn' (by omega) (by omega) (growslice_fits (by omega) hby)
   have hge := grownCap_ge w (n + m) c E
   refine ⟨_, _, hr, .grown (grownCap w (n + m) c E) (cur.take (n * i.size)) (Builtin.zeroCells z.cells (grownCap w (n + m) c E - (n + m))).toList rfl hge ?_ ?_ (by simp [hle]) ?_ ?_⟩
   ·have := alloc_blk' w.drew ((cur.take (n * i.size)).toArray ++ news.toArray ++ Builtin.zeroCells z.cells (grownCap w (n + m) c E - (n + m))) E
    simpa using this
   ·simp only [List.length_append, hl, Array.length_toList, size_zeroCells, hE.zlen, List.length_take, Nat.min_eq_left hle, ← Nat.add_mul]
    congr 1; omega
   ·intro g' c'' cur' he hB' _ _
    simp only [Value.slice.injEq, Option.some.injEq, Addr.mk.injEq, and_true, true_and] at he
    obtain ⟨rfl, rfl⟩ := he
    rw [hB.uniq hB']
   ·exact Below.trans (d_Y w) (a_B w.drew _)
theorem b_.row {α : Type} [Dat α] {w : World} {S : List Nat} {v : Value} {l : List α} (h : b_ w S v l) :
  (v = .slice none 0 0 ∧ l.length = 0) ∨ ∃ g c cur, v = .slice (some ⟨g, 0, none⟩) l.length c ∧ l.length ≤ c ∧ Blk w g cur ∧ cur.length = c * sz α := by
 rcases h with ⟨h1, rfl, _⟩ | ⟨g, c, cur, Ss, h1, h2, h3, h4, h5, _⟩
 ·exact .inl ⟨h1, rfl⟩
 ·exact .inr ⟨g, c, cur, h1, h2, h4, h5⟩
theorem l_i {α : Type} [Dat α] {w w' : World} {S : List Nat} {sv v' : Value} {l : List α}
  (ho : b_ w S sv l) (hN : S.Nodup) {news : List Value} {xs : List α} {Ts : List (List Nat)} (hl : news.length = xs.length * sz α)
  (hTl : Ts.length = xs.length) (hx : ∀ (i : Nat) (x : α) (Ti : List Nat), xs[i]? = some x → Ts[i]? = some Ti → own w Ti (W_ (sz α) i news) x)
  (hD : ∀ k ∈ List.flatten Ts, k ∉ S) (hTN : (List.flatten Ts).Nodup) (hlen : l.length + xs.length ≤ LEN) (happ : App w w' l.length xs.length (sz α) sv v' news) :
  ∃ S', b_ w' S' v' (l ++ xs) ∧ S'.Nodup ∧ Chg (· ∈ S) w w' ∧ (∀ k ∈ S', k ∈ S ∨ k ∈ List.flatten Ts ∨ k = w.heap.size) := by
 have hll : (l ++ xs).length = l.length + xs.length := by simp
 -- the elements, in whatever row they lie now
 have elems : ∀ (Ss : List (List Nat)) (cur cur' : List Value) (w' : World), Ss.length = l.length → (∀ (i : Nat) (x : α) (Si : List Nat), l[i]? = some x → Ss[i]? = some Si → own w' Si (W_ (sz α) i cur) x) →
   (∀ (i : Nat) (x : α) (Ti : List Nat), xs[i]? = some x → Ts[i]? = some Ti → own w' Ti (W_ (sz α) i news) x) →
   (∀ i, i < l.length → W_ (sz α) i cur' = W_ (sz α) i cur) → (∀ i, i < xs.length → W_ (sz α) (l.length + i) cur' = W_ (sz α) i news) →
   ∀ (i : Nat) (x : α) (Si : List Nat), (l ++ xs)[i]? = some x → (Ss ++ Ts)[i]? = some Si → own w' Si ((cur'.drop (i * sz α)).take (sz α)) x := by
  intro Ss cur cur' w' hS g1 g2 g3 g4 i x Si hx' hSi
  by_cases hi : i < l.length
  ·rw [List.getElem?_append_left hi] at hx'
   rw [List.getElem?_append_left (by omega)] at hSi
   have := g1 i x Si hx' hSi
   rw [← g3 i hi] at this
   exact this
  ·rw [List.getElem?_append_right (by omega)] at hx'
   rw [List.getElem?_append_right (by omega), hS] at hSi
   have := g2 _ x Si hx' hSi
   rw [← g4 _ (List.getElem?_eq_some_iff.1 hx').1] at this
   have he : l.length + (i - l.length) = i := by omega
   rw [he] at this
   exact this
 cases happ with
 | same hm hv hw =>
  have hxs : xs = [] := List.eq_nil_of_length_eq_zero hm
  subst hxs hv hw
  exact ⟨S, by simpa using ho, hN, Chg.refl _ _, fun k hk => .inl hk⟩
 | place g c cur hs hv hc hb hcl hb' hch =>
  subst hv
  rcases ho with ⟨h, _⟩ | ⟨g', c'', cur', Ss, hs', h2, h3, h4, h5, rfl, h7, h8⟩
  ·rw [h] at hs; cases hs
  ·rw [hs] at hs'
   simp only [Value.slice.injEq, Option.some.injEq, Addr.mk.injEq, and_true, true_and] at hs'
   obtain ⟨rfl, rfl⟩ := hs'
   obtain rfl := hb.uniq h4
   have hgS : ∀ (i : Nat) Si, Ss[i]? = some Si → ∀ k ∈ Si, ¬ k = g := fun i Si hSi k hk he => (List.nodup_cons.1 hN).1 (he ▸ d_c hSi hk)
   have hgT : ∀ (i : Nat) Ti, Ts[i]? = some Ti → ∀ k ∈ Ti, ¬ k = g := fun i Ti hTi k hk he => hD k (d_c hTi hk) (he ▸ List.mem_cons_self)
   have hle : l.length * sz α ≤ cur.length := by rw [hcl]; exact Nat.mul_le_mul_right _ h2
   have htk : (cur.take (l.length * sz α)).length = l.length * sz α := by simp [hle]
   refine ⟨g :: List.flatten (Ss ++ Ts), .inr ⟨g, c, _, Ss ++ Ts, by rw [hll], by rw [hll]; exact hc, by rw [hll]; exact hlen, hb', ?_, rfl, by simp [h7, hTl], ?_⟩, ?_, hch.mono fun k _ hk => by rw [hk]; exact List.mem_cons_self, ?_⟩
   ·have : l.length * sz α + xs.length * sz α ≤ cur.length := by rw [hcl, ← Nat.add_mul]; exact Nat.mul_le_mul_right _ hc
    simp only [List.length_append, htk, hl, List.length_drop]; omega
   ·refine elems Ss cur _ w' h7 (fun i x Si a b => d_X (h8 i x Si a b) hch (hgS i Si b)) (fun i x Ti a b => d_X (hx i x Ti a b) hch (hgT i Ti b)) ?_ ?_
    ·intro i hi
     rw [List.append_assoc, d_t htk hi, j_H hi]
    ·intro i hi
     rw [List.append_assoc, f_x htk (by omega), Nat.add_sub_cancel_left, d_t hl hi]
   ·rw [List.flatten_append, List.nodup_cons]
    obtain ⟨ha, hb⟩ := List.nodup_cons.1 hN
    refine ⟨fun hm => ?_, List.nodup_append.2 ⟨hb, hTN, fun a ha' b hb' he => hD b hb' (List.mem_cons_of_mem _ (he ▸ ha'))⟩⟩
    rcases List.mem_append.1 hm with h | h
    ·exact ha h
    ·exact hD g h List.mem_cons_self
   ·intro k hk
    rw [List.flatten_append] at hk
    rcases List.mem_cons.1 hk with rfl | hk
    ·exact .inl List.mem_cons_self
    ·rcases List.mem_append.1 hk with h | h
     ·exact .inl (List.mem_cons_of_mem _ h)
     ·exact .inr (.inl h)
 | grown c olds zs hv hc hb' hcl hol hold hbel =>
  subst hv
  have hTlt : ∀ k ∈ List.flatten Ts, k < w.heap.size := fun k hk => by
   obtain ⟨Ti, hTi, hk⟩ := List.mem_flatten.1 hk
   obtain ⟨i, hi⟩ := List.getElem?_of_mem hTi
   obtain ⟨x, hx'⟩ := zip_some' hTl hi
   exact own_lt (hx i x Ti hx' hi) k hk
  have hch : Chg (· ∈ S) w w' := Vw.Below.chg hbel _
  -- the old elements
  obtain ⟨Ss, cur, hSl, hSe, hSS, hcur⟩ : ∃ (Ss : List (List Nat)) (cur : List Value), Ss.length = l.length ∧ (∀ (i : Nat) (x : α) (Si : List Nat), l[i]? = some x → Ss[i]? = some Si → own w Si (W_ (sz α) i cur) x) ∧ ((List.flatten Ss).Nodup ∧ ∀ k ∈ List.flatten Ss, k ∈ S) ∧ (∀ i, i < l.length → W_ (sz α) i olds = W_ (sz α) i cur) := by
   rcases ho with ⟨_, rfl, rfl⟩ | ⟨g', c'', cur', Ss, hs', h2, h3, h4, h5, rfl, h7, h8⟩
   ·exact ⟨[], [], rfl, fun i x Si h => by simp at h, ⟨by simp, fun k hk => by simp at hk⟩, fun i hi => absurd hi (Nat.not_lt_zero _)⟩
   ·refine ⟨Ss, cur', h7, h8, ⟨(List.nodup_cons.1 hN).2, fun k hk => List.mem_cons_of_mem _ hk⟩, fun i hi => ?_⟩
    rw [hold _ _ _ hs' h4 h5 h2, j_H hi]
  refine ⟨w.heap.size :: List.flatten (Ss ++ Ts), .inr ⟨w.heap.size, c, _, Ss ++ Ts, by rw [hll], by rw [hll]; exact hc, by rw [hll]; exact hlen, hb', hcl, rfl, by simp [hSl, hTl], ?_⟩, ?_, hch, ?_⟩
  ·refine elems Ss cur _ w' hSl (fun i x Si a b => h_i (hSe i x Si a b) hbel) (fun i x Ti a b => h_i (hx i x Ti a b) hbel) ?_ ?_
   ·intro i hi
    rw [List.append_assoc, d_t hol hi, hcur i hi]
   ·intro i hi
    rw [List.append_assoc, f_x hol (by omega), Nat.add_sub_cancel_left, d_t hl hi]
  ·rw [List.flatten_append, List.nodup_cons]
   have hSlt : ∀ k ∈ List.flatten Ss, k < w.heap.size := fun k hk => by
    obtain ⟨Si, hSi, hk⟩ := List.mem_flatten.1 hk
    obtain ⟨i, hi⟩ := List.getElem?_of_mem hSi
    obtain ⟨x, hx'⟩ := zip_some' hSl hi
    exact own_lt (hSe i x Si hx' hi) k hk
   refine ⟨fun hm => ?_, List.nodup_append.2 ⟨hSS.1, hTN, fun a ha' b hb' he => hD b hb' (he ▸ hSS.2 a ha')⟩⟩
   rcases List.mem_append.1 hm with h | h
   ·exact absurd (hSlt _ h) (Nat.lt_irrefl _)
   ·exact absurd (hTlt _ h) (Nat.lt_irrefl _)
  ·intro k hk
   rw [List.flatten_append] at hk
   rcases List.mem_cons.1 hk with rfl | hk
   ·exact .inr (.inr rfl)
   ·rcases List.mem_append.1 hk with h | h
    ·exact .inl (hSS.2 k h)
    ·exact .inr (.inl h)
theorem p_n {α : Type} [Dat α] {P : Program} {T E bytes : Nat} {z : Value} (hE : El P T E (sz α) bytes z) (w : World) (ty : TypeId) {S : List Nat} {sv : Value} {l : List α}
  (ho : b_ w S sv l) (hN : S.Nodup) {p : Addr} {c' : Nat} {news : List Value} {xs : List α} {Ts : List (List Nat)} (hp : news ≠ [] → p.spot = none) (hl : news.length = xs.length * sz α) (hn : M_ w p.block p.off news)
  (hTl : Ts.length = xs.length) (hx : ∀ (i : Nat) (x : α) (Ti : List Nat), xs[i]? = some x → Ts[i]? = some Ti → own w Ti (W_ (sz α) i news) x)
  (hD : ∀ k ∈ List.flatten Ts, k ∉ S) (hTN : (List.flatten Ts).Nodup) (hlen : l.length + xs.length ≤ LEN) (hby : (l.length + xs.length) * bytes ≤ 140737488355328) :
  ∃ v' w' S', (Builtin.append_ #[T, T] ty #[sv, .slice (some p) xs.length c']).run P w = .ok v' w' ∧ b_ w' S' v' (l ++ xs) ∧ S'.Nodup ∧ Chg (· ∈ S) w w' ∧ (∀ k ∈ S', k ∈ S ∨ k ∈ List.flatten Ts ∨ k = w.heap.size) := by
 have h1 : ∀ u ∈ news, u.oneCell' = true := by
  intro u hu
  obtain ⟨j, hj⟩ := List.getElem?_of_mem hu
  have hjl := (List.getElem?_eq_some_iff.1 hj).1
  have hi : j / sz α < xs.length := by rw [hl] at hjl; exact Nat.div_lt_of_lt_mul (by rwa [Nat.mul_comm])
  have hown := hx (j / sz α) xs[j / sz α] Ts[j / sz α] (by simp) (by simp)
  refine rep_one (own_rep' hown) u ?_
  have hmod := Nat.mod_lt j (pos (α := α))
  have hdm := Nat.div_add_mod j (sz α)
  have : (W_ (sz α) (j / sz α) news)[j % sz α]? = some u := by
   unfold W_
   rw [List.getElem?_take, if_pos hmod, List.getElem?_drop, Nat.mul_comm, hdm]
   exact hj
  exact List.mem_of_getElem? this
 obtain ⟨v', w', hrun, happ⟩ := p_m (P := P) hE w ty ho.row (c' := c') hp hl hn h1 hlen hby
 obtain ⟨S', h⟩ := l_i ho hN hl hTl hx hD hTN hlen happ
 exact ⟨v', w', S', hrun, h⟩
end Go.Vw
