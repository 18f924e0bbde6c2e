import Derived.Test.YtfdcdeahjejlmaaGreatDoorVqVal
set_option linter.unusedVariables false
namespace Go.Vw
open Go.RowKit Dat
theorem l_a {α : Type} [Dat α] {w : World} {S : List Nat} {g n c i : Nat} {l : List α} {x : α} (ho : b_ w S (.slice (some ⟨g, 0, none⟩) n c) l) (hN : S.Nodup) (hx : l[i]? = some x) :
  ∃ cur Si, Blk w g cur ∧ cur.length = c * sz α ∧ i < c ∧ n = l.length ∧ own w Si (W_ (sz α) i cur) x ∧ Si.Nodup ∧ (∀ k ∈ Si, k ∈ S) ∧ g ∉ Si ∧ g ∈ S ∧
   ∀ (w' : World) (cur' : List Value) (x' : α) (Si' : List Nat), Blk w' g cur' → cur'.length = cur.length → (∀ j, j < c → j ≠ i → W_ (sz α) j cur' = W_ (sz α) j cur) → own w' Si' (W_ (sz α) i cur') x' → Chg (fun k => k = g ∨ k ∈ Si) w w' → Si'.Nodup → (∀ k ∈ Si', k ∈ Si ∨ w.heap.size ≤ k) →
    ∃ S', b_ w' S' (.slice (some ⟨g, 0, none⟩) n c) (l.set i x') ∧ S'.Nodup ∧ (∀ k ∈ S', k ∈ S ∨ w.heap.size ≤ k) := by
 have hlt := ho.lt
 rcases ho with ⟨h, _⟩ | ⟨g', c', cur, Ss, he, h1, h2, h3, h4, rfl, h6, h7⟩
 ·cases h
 simp only [Value.slice.injEq, Option.some.injEq, Addr.mk.injEq, and_true] at he
 obtain ⟨rfl, rfl, rfl⟩ := he
 have hi := (List.getElem?_eq_some_iff.1 hx).1
 have hic : i < c := Nat.lt_of_lt_of_le hi h1
 obtain ⟨hgn, hfn⟩ := List.nodup_cons.1 hN
 obtain ⟨Si, hSi⟩ := f_t h6 hx
 have hsubF : ∀ k ∈ Si, k ∈ List.flatten Ss := fun k hk => d_c hSi hk
 have hiS : i < Ss.length := by omega
 have hnd0 := hfn
 rw [List.nodup_iff_pairwise_ne, List.pairwise_flatten] at hnd0
 obtain ⟨p1, p2⟩ := hnd0
 have hSiN : Si.Nodup := by rw [List.nodup_iff_pairwise_ne]; exact p1 Si (List.mem_of_getElem? hSi)
 rw [List.pairwise_iff_getElem] at p2
 have hSie : Ss[i] = Si := by rw [List.getElem?_eq_getElem hiS] at hSi; exact Option.some.inj hSi
 have hdis : ∀ (j : Nat) (hj : j < Ss.length), j ≠ i → ∀ t ∈ Ss[j], t ∉ Si := by
  intro j hj hji t ht ht'
  rw [← hSie] at ht'
  rcases Nat.lt_or_ge j i with h | h
  ·exact p2 j i hj hiS h t ht t ht' rfl
  ·exact p2 i j hiS hj (by omega) t ht' t ht rfl
 refine ⟨cur, Si, h3, h4, hic, rfl, h7 i x Si hx hSi, hSiN, fun k hk => List.mem_cons_of_mem _ (hsubF k hk), fun hg => hgn (hsubF g hg), List.mem_cons_self, ?_⟩
 intro w' cur' x' Si' hB hl hch hx' hc hN' hsub
 have hsub2 : ∀ k ∈ List.flatten (Ss.set i Si'), k ∈ List.flatten Ss ∨ w.heap.size ≤ k := by
  intro k hk
  obtain ⟨Sj, hSj, hk1⟩ := List.mem_flatten.1 hk
  rcases List.mem_or_eq_of_mem_set hSj with h | h
  ·exact .inl (List.mem_flatten.2 ⟨Sj, h, hk1⟩)
  ·subst h; exact (hsub k hk1).imp (hsubF k) id
 refine ⟨g :: List.flatten (Ss.set i Si'), .inr ⟨g, c, cur', Ss.set i Si', by simp, by simpa using h1, by simpa using h2, hB, by rw [hl, h4], rfl, by simp [h6], ?_⟩, ?_, ?_⟩
 ·intro j y Sj hy hSj
  have hj : j < l.length := by have := (List.getElem?_eq_some_iff.1 hy).1; simpa using this
  show own w' Sj (W_ (sz α) j _) y
  by_cases hji : j = i
  ·subst hji
   rw [List.getElem?_set_self hj] at hy
   rw [List.getElem?_set_self (by omega)] at hSj
   simp only [Option.some.injEq] at hy hSj
   subst hy hSj
   exact hx'
  ·rw [hch j (Nat.lt_of_lt_of_le hj h1) hji]
   rw [List.getElem?_set_ne (Ne.symm hji)] at hy hSj
   have hjS : j < Ss.length := by omega
   have hje : Ss[j] = Sj := by rw [List.getElem?_eq_getElem hjS] at hSj; exact Option.some.inj hSj
   exact d_X (h7 j y Sj hy hSj) hc (fun k hk hk' => hk'.elim (fun h => hgn (h ▸ d_c hSj hk)) (hdis j hjS hji k (hje ▸ hk)))
 ·refine List.nodup_cons.2 ⟨fun hm => ?_, ?_⟩
  ·rcases hsub2 g hm with h | h
   ·exact hgn h
   ·exact absurd (hlt g List.mem_cons_self) (Nat.not_lt.2 h)
  ·have notS : ∀ (j : Nat) (hj : j < Ss.length), j ≠ i → ∀ t ∈ Ss[j], t ∉ Si' := fun j hj hji t ht ht' => (hsub t ht').elim (hdis j hj hji t ht) (fun h => absurd (hlt t (List.mem_cons_of_mem _ (List.mem_flatten.2 ⟨Ss[j], List.getElem_mem hj, ht⟩))) (Nat.not_lt.2 h))
   rw [List.nodup_iff_pairwise_ne, List.pairwise_flatten]
   refine ⟨fun Sj hSj => ?_, ?_⟩
   ·rcases List.mem_or_eq_of_mem_set hSj with h | rfl
    ·exact p1 Sj h
    ·rw [← List.nodup_iff_pairwise_ne]; exact hN'
   ·rw [List.pairwise_iff_getElem]
    intro a b ha hb hab u hu v hv
    have ha' : a < Ss.length := by simpa using ha
    have hb' : b < Ss.length := by simpa using hb
    rw [List.getElem_set] at hu hv
    by_cases hai : i = a
    ·rw [if_pos hai] at hu
     rw [if_neg (by omega)] at hv
     intro huv
     exact notS b hb' (by omega) v hv (huv ▸ hu)
    ·rw [if_neg hai] at hu
     by_cases hbi : i = b
     ·rw [if_pos hbi] at hv
      intro huv
      exact notS a ha' (by omega) u hu (huv ▸ hv)
     ·rw [if_neg hbi] at hv
      exact p2 a b ha' hb' hab u hu v hv
 ·intro k hk
  rcases List.mem_cons.1 hk with rfl | hk
  ·exact .inl List.mem_cons_self
  ·exact (hsub2 k hk).imp (List.mem_cons_of_mem _) id
theorem f_p {α : Type} [Dat α] {w : World} {S : List Nat} {ao : Option Addr} {g n c : Nat} {i : Int} {l : List α} {x : α} (ha : ao = some ⟨g, 0, none⟩) (ho : b_ w S (.slice ao n c) l) (hN : S.Nodup) (hx : idx l i = some x) :
  ∃ cs Si, M_ w g (0 + i.toNat * sz α) cs ∧ own w Si cs x ∧ Si.Nodup ∧ (∀ k ∈ Si, k ∈ S) ∧ g ∈ S ∧
   ∀ (w' : World) (x' : α) (Si' : List Nat), Chg (· ∈ Si) w w' → own w' Si' cs x' → Si'.Nodup → (∀ k ∈ Si', k ∈ Si ∨ w.heap.size ≤ k) →
    ∃ S', b_ w' S' (.slice ao n c) (l.set i.toNat x') ∧ S'.Nodup ∧ (∀ k ∈ S', k ∈ S ∨ w.heap.size ≤ k) := by
 subst ha
 obtain ⟨_, hx, _⟩ := b_A hx
 obtain ⟨cur, Si, h1, h2, h3, h4, h5, h6, h7, h8, h9, h10⟩ := l_a ho hN hx
 refine ⟨W_ (sz α) i.toNat cur, Si, ?_, h5, h6, h7, h9, fun w' x' Si' hc hx' hN' hsub => h10 w' cur x' Si' (h1.chg hc h8) rfl (fun _ _ _ => rfl) hx' (hc.mono fun k _ h => .inr h) hN' hsub⟩
 rw [Nat.zero_add]
 exact h1.cells _ _
theorem p_7 {α : Type} [Dat α] {w w' : World} {S : List Nat} {g n c o : Nat} {i : Int} {l m : List α} {x x' : α} {u : Value} (ho : b_ w S (.slice (some ⟨g, 0, none⟩) n c) l) (hN : S.Nodup) (hx : idx l i = some x) (hm : upd l i x' = some m) (hset : ∀ (w : World) (S : List Nat) (cs : List Value), own w S cs x → own w S (cs.set o u) x') (hlt : o < sz α)
  (hB : ∀ cur, Blk w g cur → Blk w' g (cur.set (i.toNat * sz α + o) u)) (hch : Chg (· = g) w w') : ∃ S', b_ w' S' (.slice (some ⟨g, 0, none⟩) n c) m ∧ S'.Nodup ∧ (∀ k ∈ S', k ∈ S ∨ w.heap.size ≤ k) := by
 obtain ⟨rfl, _, _⟩ := d_U hm
 obtain ⟨_, hx, _⟩ := b_A hx
 obtain ⟨cur, Si, h1, h2, h3, h4, h5, h6, h7, h8, h9, h10⟩ := l_a ho hN hx
 refine h10 w' (cur.set (i.toNat * sz α + o) u) x' Si (hB cur h1) (by simp) ?_ ?_ (hch.mono fun k _ h => .inl h) h6 (fun k hk => .inl hk)
 ·intro j hj hji
  unfold W_
  apply List.ext_getElem?
  intro q
  rw [List.getElem?_take, List.getElem?_take]
  split
  ·rename_i hq
   rw [List.getElem?_drop, List.getElem?_drop, List.getElem?_set_ne]
   intro he
   rcases Nat.lt_or_ge j i.toNat with h | h
   ·have := Nat.mul_le_mul_right (sz α) (Nat.succ_le_of_lt h)
    rw [Nat.succ_mul] at this
    omega
   ·have := Nat.mul_le_mul_right (sz α) (Nat.succ_le_of_lt (Nat.lt_of_le_of_ne h (Ne.symm hji)))
    rw [Nat.succ_mul] at this
    omega
  ·rfl
 ·have : W_ (sz α) i.toNat (cur.set (i.toNat * sz α + o) u) = (W_ (sz α) i.toNat cur).set o u := by
   unfold W_
   rw [List.drop_set, if_neg (by omega), show i.toNat * sz α + o - i.toNat * sz α = o by omega, List.take_set]
  rw [this]
  exact d_X (hset w Si _ h5) hch (fun k hk h => h8 (h ▸ hk))
section
variable {X : Nat → Prop} {P : Program} {N : Nat} {e : Env} {w : World} {dst : Option Tmp} {ty : TypeId} {pos : String} {aft : Array Edge} {gd : Option (Nat × Bool)} {x y : Operand} {T E : Nat}
theorem d_8 {α : Type} [Dat α] {ao : Option Addr} {n c sz' : Nat} {S : List Nat} {l : List α} {i : Int} {v : α} {kk : IntKind} (hT : P.underlying T = some (.slice E)) (hs : ∀ w, (sizeOf E).run P w = .ok sz' w) (hx : ev e x = some (.slice ao n c)) (hy : ev e y = some (.int kk i)) (hr : b_ w S (.slice ao n c) l) (hi : idx l i = some v) :
  ∃ u, Rd X P N ⟨dst, .indexAddr T x y, ty, pos, aft, gd⟩ e w u ∧ ∃ g, ao = some ⟨g, 0, none⟩ ∧ u = .pointer (some ⟨g, 0 + i.toNat * sz', none⟩) := by
 obtain ⟨h0, _, h1⟩ := b_A hi
 obtain ⟨g, rfl⟩ := hr.head (by omega)
 obtain ⟨_, _, he, _⟩ := hr.rep
 cases he
 exact ⟨_, h_l (k := kk) hT hs hx hy h0 h1, g, rfl, rfl⟩
theorem h_g {α : Type} [Dat α] {S : List Nat} {g n c o sz' : Nat} {ao : Option Addr} {i : Int} {l m : List α} {v v' : α} {u : Value} (hs : ∀ w, (sizeOf T).run P w = .ok 1 w) (hsz : sz' = sz α) (hao : ao = some ⟨g, 0, none⟩) (hx : ev e x = some (.pointer (some ⟨g, 0 + i.toNat * sz' + o, none⟩))) (hy : ev e y = some u) (hu : u.cells.toList = [u]) (h1 : u.oneCell' = true)
  (hi : idx l i = some v) (hm : upd l i v' = some m) (ho : b_ w S (.slice ao n c) l) (hN : S.Nodup) (hlt : o < sz') (hset : ∀ (w : World) (S : List Nat) (cs : List Value), own w S cs v → own w S (cs.set o u) v') :
  Ef P N ⟨none, .store T x y, ty, pos, aft, gd⟩ e w (fun _ w' => ∃ S', Chg (· ∈ S) w w' ∧ b_ w' S' (.slice ao n c) m ∧ S'.Nodup ∧ (∀ k ∈ S', k ∈ S ∨ w.heap.size ≤ k)) := by
 subst hao hsz
 obtain ⟨cur, hB, hcl, hlc, hg⟩ := ho.blk
 obtain ⟨h0, _, h2⟩ := b_A hi
 have hle : i.toNat * sz α + sz α ≤ cur.length := by rw [hcl, ← Nat.succ_mul]; exact Nat.mul_le_mul_right _ (by omega)
 have hus : u.cells.size = 1 := by rw [← Array.length_toList, hu]; rfl
 have h := f_j (P := P) (N := N) (ty := ty) (pos := pos) (aft := aft) (gd := gd) hs hx hy hB hus (by omega) (by rw [hu]; simpa using h1) rfl
 constructor
 intro a ha Q
 refine Oper.wp_mono ?_ (h.run a ha Q)
 rintro a' w' ⟨v0, rfl, hb, hch⟩
 obtain ⟨S', k1, k2, k3⟩ := p_7 ho (w' := w') hN hi hm hset hlt (fun cur' hc' => by
  obtain rfl := hB.uniq hc'
  rw [hu] at hb
  simp only [Nat.zero_add, List.length_cons, List.length_nil] at hb
  rw [List.set_eq_take_append_cons_drop, if_pos (by omega)]
  simpa using hb) hch
 exact ⟨v0, rfl, S', hch.mono (fun k _ hk => hk ▸ hg), k1, k2, k3⟩
end
theorem l_b {w : World} {S : List Nat} {cs : List Value} {x : Int} (h : own w S cs x) : cs = [vI x] ∧ S = [] ∧ inI x := by
 obtain ⟨rfl, v, rfl, rfl, h⟩ := h
 exact ⟨rfl, rfl, h⟩
theorem p_8 {w : World} {S : List Nat} {cs : List Value} {x : Str} (h : own w S cs x) : cs = [x.v] ∧ S = [] ∧ x.b.length ≤ LEN := by
 obtain ⟨rfl, v, rfl, rfl, h⟩ := h
 exact ⟨rfl, rfl, h⟩
theorem p_9 {w : World} {S : List Nat} {cs : List Value} {x : Bool} (h : own w S cs x) : cs = [vB x] ∧ S = [] := by
 obtain ⟨rfl, v, rfl, rfl⟩ := h
 exact ⟨rfl, rfl⟩
theorem f_q {α : Type} [Dat α] {w : World} {S : List Nat} {cs : List Value} {x : List α} (h : own w S cs x) : ∃ (a : Option Addr) (n c : Nat), cs = [.slice a n c] ∧ b_ w S (.slice a n c) x := by
 obtain ⟨v, rfl, h⟩ := h
 obtain ⟨a, c, rfl⟩ := b_.shape h
 exact ⟨a, _, c, rfl, h⟩
end Go.Vw
