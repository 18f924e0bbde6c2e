import Derived.Test.YtfdcdeahjejlmaaGreatDoorVqGen2
set_option linter.unusedVariables false
namespace Go.Vw
open Go.RowKit Dat
theorem d_U {α : Type} {l m : List α} {i : Int} {x : α} (h : upd l i x = some m) : m = l.set i.toNat x ∧ 0 ≤ i ∧ i < l.length := by
 unfold upd at h
 split at h
 ·rename_i hl; exact ⟨(Option.some.inj h).symm, hl⟩
 ·cases h
theorem o_L {n i j k : Nat} {l cs : List Value} (hl : l.length = k * n) (hc : cs.length = n) (hi : i < k) (hj : j < k) :
  W_ n j (l.take (i * n) ++ cs ++ l.drop (i * n + n)) = if j = i then cs else W_ n j l := by
 have h1 : (i + 1) * n ≤ k * n := Nat.mul_le_mul_right n hi
 rw [Nat.succ_mul] at h1
 have htk : (l.take (i * n)).length = i * n := by simp; omega
 have htc : (l.take (i * n) ++ cs).length = (i + 1) * n := by simp [hc, Nat.succ_mul]; omega
 by_cases hji : j = i
 ·subst hji
  rw [if_pos rfl, d_t htc (Nat.lt_succ_self _), f_x htk (Nat.le_refl _), Nat.sub_self, h_q cs _ hc]
 ·rw [if_neg hji]
  by_cases hlt : j < i
  ·rw [d_t htc (by omega), d_t htk hlt, j_H hlt]
  ·rw [f_x htc (by omega)]
   unfold W_
   rw [List.drop_drop]
   congr 2
   have : j = (i + 1) + (j - (i + 1)) := by omega
   calc i * n + n + (j - (i + 1)) * n = (i + 1) * n + (j - (i + 1)) * n := by rw [Nat.succ_mul]
    _ = j * n := by rw [← Nat.add_mul, ← this]
theorem o_M {α : Type} [Dat α] {w w' : World} {S Si : List Nat} {g n c i : Nat} {l : List α} {x : α} {cs : List Value} (ho : b_ w S (.slice (some ⟨g, 0, none⟩) n c) l) (hN : S.Nodup) (hi : i < l.length) (hx : own w Si cs x) (hD : ∀ k ∈ Si, k ∉ S) (hSi : Si.Nodup)
  (hB : ∀ cur, Blk w g cur → Blk w' g (cur.take (i * sz α) ++ cs ++ cur.drop (i * sz α + sz α))) (hch : Chg (· = g) w w') :
  ∃ S', b_ w' S' (.slice (some ⟨g, 0, none⟩) (l.set i x).length c) (l.set i x) ∧ S'.Nodup ∧ (∀ k ∈ S', k ∈ S ∨ k ∈ Si) := by
 rcases ho with ⟨h, _⟩ | ⟨g', c', cur, Ss, he, h1, h2, h3, h4, rfl, h6, h7⟩
 ·cases h
 ·simp only [Value.slice.injEq, Option.some.injEq, Addr.mk.injEq, and_true] at he
  obtain ⟨rfl, rfl, rfl⟩ := he
  have hcs := rep_len (own_rep' hx)
  have hic : i < c := Nat.lt_of_lt_of_le hi h1
  have hle : i * sz α + sz α ≤ cur.length := by rw [h4, ← Nat.succ_mul]; exact Nat.mul_le_mul_right _ hic
  obtain ⟨hgn, hfn⟩ := List.nodup_cons.1 hN
  have hgS : ∀ (j : Nat) Sj, Ss[j]? = some Sj → ∀ k ∈ Sj, ¬ k = g := fun j Sj hSj k hk hk' => hgn (hk' ▸ d_c hSj hk)
  have hsub : ∀ k ∈ List.flatten (Ss.set i Si), k ∈ List.flatten Ss ∨ k ∈ Si := by
   intro k hk
   obtain ⟨Sj, hSj, hk⟩ := List.mem_flatten.1 hk
   rcases List.mem_or_eq_of_mem_set hSj with h | h
   ·exact .inl (List.mem_flatten.2 ⟨Sj, h, hk⟩)
   ·exact .inr (h ▸ hk)
  refine ⟨g :: List.flatten (Ss.set i Si), .inr ⟨g, c, _, Ss.set i Si, rfl, by simpa using h1, by simpa using h2, hB cur h3, ?_, rfl, by simp [h6], ?_⟩, ?_, ?_⟩
  ·rw [← h4]; simp [hcs]; omega
  ·intro j y Sj hy hSj
   have hj : j < l.length := by have := (List.getElem?_eq_some_iff.1 hy).1; simpa using this
   show own w' Sj (W_ (sz α) j _) y
   rw [o_L h4 hcs hic (Nat.lt_of_lt_of_le hj h1)]
   by_cases hji : j = i
   ·subst hji
    rw [if_pos rfl]
    rw [List.getElem?_set_self hj] at hy
    rw [List.getElem?_set_self (by omega)] at hSj
    simp only [Option.some.injEq] at hy hSj
    subst hy hSj
    exact d_X hx hch (fun k hk hk' => hD k hk (hk' ▸ List.mem_cons_self))
   ·rw [if_neg hji]
    rw [List.getElem?_set_ne (Ne.symm hji)] at hy hSj
    exact d_X (h7 j y Sj hy hSj) hch (hgS j Sj hSj)
  ·refine List.nodup_cons.2 ⟨fun hm => ?_, ?_⟩
   ·rcases hsub g hm with h | h
    ·exact hgn h
    ·exact hD g h List.mem_cons_self
   ·rw [List.nodup_iff_pairwise_ne] at *
    rw [List.pairwise_flatten] at hfn ⊢
    obtain ⟨p1, p2⟩ := hfn
    refine ⟨fun Sj hSj => ?_, ?_⟩
    ·rcases List.mem_or_eq_of_mem_set hSj with h | rfl
     ·exact p1 Sj h
     ·exact hSi
    ·rw [List.pairwise_iff_getElem] at p2 ⊢
     intro a b ha hb hab u hu v hv
     have ha' : a < Ss.length := by simpa using ha
     have hb' : b < Ss.length := by simpa using hb
     have notS : ∀ (j : Nat) (hj : j < Ss.length) (t : Nat), t ∈ Ss[j] → t ∉ Si := fun j hj t ht ht' => hD t ht' (List.mem_cons_of_mem _ (List.mem_flatten.2 ⟨Ss[j], List.getElem_mem hj, ht⟩))
     rw [List.getElem_set] at hu hv
     by_cases hai : i = a
     ·rw [if_pos hai] at hu
      rw [if_neg (by omega)] at hv
      intro huv
      exact notS b hb' v hv (huv ▸ hu)
     ·rw [if_neg hai] at hu
      by_cases hbi : i = b
      ·rw [if_pos hbi] at hv
       intro huv
       exact notS a ha' u hu (huv ▸ hv)
      ·rw [if_neg hbi] at hv
       exact p2 a b ha' hb' hab u hu v hv
  ·intro k hk
   rcases List.mem_cons.1 hk with rfl | hk
   ·exact .inl List.mem_cons_self
   ·exact (hsub k hk).imp (List.mem_cons_of_mem _) id
theorem b_.blk {α : Type} [Dat α] {w : World} {S : List Nat} {g n c : Nat} {l : List α} (h : b_ w S (.slice (some ⟨g, 0, none⟩) n c) l) : ∃ cur, Blk w g cur ∧ cur.length = c * sz α ∧ l.length ≤ c ∧ g ∈ S := by
 rcases h with ⟨h, _⟩ | ⟨g', c', cur, Ss, he, h1, h2, h3, h4, rfl, _⟩
 ·cases h
 ·simp only [Value.slice.injEq, Option.some.injEq, Addr.mk.injEq, and_true] at he
  obtain ⟨rfl, rfl, rfl⟩ := he
  exact ⟨cur, h3, h4, h1, List.mem_cons_self⟩
theorem b_.head {α : Type} [Dat α] {w : World} {S : List Nat} {ao : Option Addr} {n c : Nat} {l : List α} (h : b_ w S (.slice ao n c) l) (hl : 0 < l.length) : ∃ g, ao = some ⟨g, 0, none⟩ := by
 rcases h with ⟨_, rfl, _⟩ | ⟨g', c', cur, Ss, he, _⟩
 ·simp at hl
 ·simp only [Value.slice.injEq] at he
  exact ⟨g', he.1⟩
section
variable {P : Program} {N : Nat} {e : Env} {w : World} {dst : Option Tmp} {ty : TypeId} {pos : String} {aft : Array Edge} {gd : Option (Nat × Bool)} {x y z : Operand} {T T' : Nat}
theorem ef_set {α : Type} [Dat α] {S Si : List Nat} {g n c : Nat} {i : Int} {l m : List α} {v : α} {u : Value} {cs : List Value} {sz' : Nat} (hs : ∀ w, (sizeOf T).run P w = .ok sz' w) (hsz : sz' = sz α) (hx : ev e x = some (.pointer (some ⟨g, 0 + i.toNat * sz', none⟩))) (hy : ev e y = some u) (hu : u.cells.toList = cs)
  (hm : upd l i v = some m) (ho : b_ w S (.slice (some ⟨g, 0, none⟩) n c) l) (hN : S.Nodup) (hv : own w Si cs v) (hD : ∀ k ∈ Si, k ∉ S) (hSi : Si.Nodup) :
  Ef P N ⟨none, .store T x y, ty, pos, aft, gd⟩ e w (fun _ w' => ∃ S', b_ w' S' (.slice (some ⟨g, 0, none⟩) m.length c) m ∧ S'.Nodup ∧ Chg (· = g) w w' ∧ (∀ k ∈ S', k ∈ S ∨ k ∈ Si)) := by
 subst hsz hu
 obtain ⟨rfl, h0, h1⟩ := d_U hm
 obtain ⟨cur, hB, hcl, hlc, _⟩ := ho.blk
 have hcs := rep_len (own_rep' hv)
 have hi : i.toNat < l.length := by omega
 have hle : i.toNat * sz α + sz α ≤ cur.length := by rw [hcl, ← Nat.succ_mul]; exact Nat.mul_le_mul_right _ (Nat.lt_of_lt_of_le hi hlc)
 have h := f_j (P := P) (N := N) (ty := ty) (pos := pos) (aft := aft) (gd := gd) hs hx hy hB (by simpa using hcs) (by omega) (rep_one (own_rep' hv)) rfl
 constructor
 intro a ha Q
 refine Oper.wp_mono ?_ (h.run a ha Q)
 rintro a' w' ⟨v', rfl, hb, hch⟩
 obtain ⟨S', k1, k2, k3⟩ := o_M (i := i.toNat) (x := v) (cs := u.cells.toList) ho hN hi hv hD hSi (fun cur' hc' => by
  obtain rfl := hB.uniq hc'
  rw [hcs, Nat.zero_add] at hb
  exact hb) hch
 exact ⟨v', rfl, S', k1, k2, hch, k3⟩
theorem mk0S {α : Type} {z : α} {n : Int} {l : List α} (h : mk0 z n = some l) : l = List.replicate n.toNat z ∧ 0 ≤ n ∧ n ≤ LIM := by
 unfold mk0 at h
 split at h
 ·rename_i hl; exact ⟨(Option.some.inj h).symm, hl⟩
 ·cases h
theorem o_N {n i k : Nat} {z : Array Value} (hz : z.size = n) (hi : i < k) : W_ n i (madeCells z (k * n)).toList = z.toList := by
 have h1 : (i + 1) * n ≤ k * n := Nat.mul_le_mul_right n hi
 rw [Nat.succ_mul] at h1
 unfold W_ madeCells
 apply List.ext_getElem?
 intro j
 rw [List.getElem?_take]
 by_cases hj : j < n
 ·rw [if_pos hj, List.getElem?_drop]
  have hmod : (i * n + j) % n = j := by rw [Nat.add_comm, Nat.add_mul_mod_self_right, Nat.mod_eq_of_lt hj]
  simp only [Array.toList_map, Array.toList_range, List.getElem?_map]
  rw [List.getElem?_range (by omega)]
  have hjz : j < z.size := by omega
  simp [hz, hmod]
  simp [hjz]
 ·rw [if_neg hj]
  simp [hz]; omega
theorem o_O {α : Type} [Dat α] {E bytes : Nat} {zz : Value} {n : Int} {l : List α} {z0 : α} (hE : El P T E (sz α) bytes zz) (hz : ∀ w, own w [] zz.cells.toList z0) (hm : mk0 z0 n = some l) (hx : ev e x = some (vI n)) (hy : ev e y = some (vI n)) :
  Ef P N ⟨dst, .makeSlice T x y, ty, pos, aft, gd⟩ e w (fun v w' => v = .slice (some ⟨w.heap.size, 0, none⟩) l.length l.length ∧ b_ w' [w.heap.size] (.slice (some ⟨w.heap.size, 0, none⟩) l.length l.length) l ∧ Below w.heap.size w w' ∧ w'.heap.size = w.heap.size + 1) := by
 obtain ⟨rfl, h0, h1⟩ := mk0S hm
 have hb : (bytes : Int) * n ≤ 281474976710656 := by
  have := j_5 (n := n.toNat) (by omega) hE.sm
  have h2 : ((n.toNat * bytes : Nat) : Int) ≤ 140737488355328 := by omega
  rw [Int.natCast_mul, Int.toNat_of_nonneg h0] at h2
  rw [Int.mul_comm]; omega
 have h := o_w (P := P) (N := N) (w := w) (dst := dst) (ty := ty) (pos := pos) (aft := aft) (gd := gd) hE hx hy h0 (Int.le_refl _) hb (by have := f_k; have := H_; omega)
 constructor
 intro a ha Q
 refine Oper.wp_mono ?_ (h.run a ha Q)
 rintro a' w' ⟨v', rfl, rfl, hn⟩
 refine ⟨_, rfl, by simp, .inr ⟨w.heap.size, n.toNat, _, List.replicate n.toNat [], by simp, by simp, ?_, hn.blk, by simp [size_madeCells], ?_, by simp, ?_⟩, hn.below, hn.size⟩
 ·simp; have := f_k; omega
 ·simp
 ·intro i y Si hy hSi
  have hi : i < n.toNat := by have := (List.getElem?_eq_some_iff.1 hy).1; simpa using this
  rw [List.getElem?_replicate, if_pos hi] at hy hSi
  simp only [Option.some.injEq] at hy hSi
  subst hy hSi
  show own w' [] (W_ (sz α) i _) z0
  rw [o_N hE.zlen hi]
  exact hz w'
end
end Go.Vw
set_option linter.unusedVariables false
namespace Go.Vw
open Go.RowKit Dat
section
variable {X : Nat → Prop} {P : Program} {N : Nat} {ops : Array Oper} {K : Act → World → Prop} {Q : Exit → Act → World → Prop} {e : Env} {w : World} {rest : List Oper} {T : Nat} {p : a_w}
variable {d : Nat} {op : Op} {ty : TypeId} {pos : String} {aft : Array Edge} {F : Value → Prop}
theorem RX (hf : Nat.blt d N = true) (h : ∃ v, Rd noX P N ⟨some d, op, ty, pos, aft, none⟩ e w v ∧ F v) (k : ∀ v, F v → WL P N ops K Q rest ((d, v) :: e) w) : WL P N ops K Q (⟨some d, op, ty, pos, aft, none⟩ :: rest) e w := by
 obtain ⟨v, h, hF⟩ := h
 exact R hf h (k v hF)
theorem dRX {i : Nat} (ho : ops[i]? = some ⟨some d, op, ty, pos, aft, none⟩) (hf : Nat.blt d N = true) (h : ∃ v, Rd X P N ⟨some d, op, ty, pos, aft, none⟩ e w v ∧ F v) (k : ∀ v, F v → PR X P N ops T K p ((d, v) :: e) w) : PR X P N ops T K (.rd i p) e w := by
 obtain ⟨v, h, hF⟩ := h
 exact dR ho hf h (k v hF)
section guards
variable {j gd : Nat} {want b : Bool}
theorem RXg (hj : (ops[j]?).bind (·.dst) = some gd) (hb : q_ e gd = some (.bool b)) (hw : b = want) (hf : Nat.blt d N = true) (h : ∃ v, Rd noX P N ⟨some d, op, ty, pos, aft, some (j, want)⟩ e w v ∧ F v) (k : ∀ v, F v → WL P N ops K Q rest ((d, v) :: e) w) : WL P N ops K Q (⟨some d, op, ty, pos, aft, some (j, want)⟩ :: rest) e w := by
 obtain ⟨v, h, hF⟩ := h
 exact Rg hj hb hw hf h (k v hF)
theorem a_K {i : Nat} (ho : ops[i]? = some ⟨some d, op, ty, pos, aft, some (j, want)⟩) (hj : (ops[j]?).bind (·.dst) = some gd) (hb : q_ e gd = some (.bool b)) (hw : b = want) (hf : Nat.blt d N = true) (h : ∃ v, Rd X P N ⟨some d, op, ty, pos, aft, some (j, want)⟩ e w v ∧ F v) (k : ∀ v, F v → PR X P N ops T K p ((d, v) :: e) w) : PR X P N ops T K (.rd i p) e w := by
 obtain ⟨v, h, hF⟩ := h
 exact dRg ho hj hb hw hf h (k v hF)
end guards
theorem exH {id : Nat} {K' : Act → World → Prop} (h : AtK N K' e w) : ∀ a, Sat N e a → inB id K' Q (.exit id) a w := fun a ha => by simp only [inB, if_true]; exact h a ha
theorem exO {id j : Nat} {K' : Act → World → Prop} (hne : Nat.beq id j = false) (h : ∀ a, Sat N e a → Q (.exit id) a w) : ∀ a, Sat N e a → inB j K' Q (.exit id) a w := fun a ha => by
 have : id ≠ j := by rintro rfl; simp at hne
 simp only [inB, if_neg this]; exact h a ha
theorem rtO {j : Nat} {K' : Act → World → Prop} (h : ∀ a, Sat N e a → Q .ret a w) : ∀ a, Sat N e a → inB j K' Q .ret a w := h
end
theorem j_6 (b : Bool) : b = true ∨ b = false := by cases b <;> simp
theorem a_2 {α β γ : Type} {f : α → β → Option γ} {a : α} {b : β} {r : Option γ} (h : un2 f (a, b) = r) : f a b = r := h
theorem c_9 {α β δ γ : Type} {f : α → β → δ → Option γ} {a : α} {b : β} {c : δ} {r : Option γ} (h : un3 f (a, b, c) = r) : f a b c = r := h
theorem un5S {α β δ ε ζ γ : Type} {f : α → β → δ → ε → ζ → Option γ} {a : α} {b : β} {c : δ} {d : ε} {e : ζ} {r : Option γ} (h : un5 f (a, b, c, d, e) = r) : f a b c d e = r := h
section
variable {S T A M : List Nat} {m n : Nat} {p : Nat → Prop}
theorem f_ {g : Nat} (h : p g) : ∀ k ∈ [g], p k := fun k hk => by rw [List.mem_singleton.1 hk]; exact h
theorem or0 (hs : ∀ k ∈ S, n ≤ k) (h : ∀ k, n ≤ k → p k) : ∀ k ∈ S, p k := fun k hk => h k (hs k hk)
theorem or1 (hs : ∀ k ∈ S, k ∈ A ∨ n ≤ k) (ha : ∀ k ∈ A, p k) (h : ∀ k, n ≤ k → p k) : ∀ k ∈ S, p k := fun k hk => (hs k hk).elim (ha k) (h k)
theorem or2 (hs : ∀ k ∈ S, k ∈ A ∨ k ∈ T ∨ n ≤ k) (ha : ∀ k ∈ A, p k) (hb : ∀ k ∈ T, p k) (h : ∀ k, n ≤ k → p k) : ∀ k ∈ S, p k := fun k hk => (hs k hk).elim (ha k) (fun h' => h'.elim (hb k) (h k))
theorem all_nil : ∀ k ∈ ([] : List Nat), p k := fun k hk => by cases hk
theorem h_b (h1 : ∀ k ∈ A, p k) (h2 : ∀ k ∈ T, p k) : ∀ k ∈ A ++ T, p k := fun k hk => (List.mem_append.1 hk).elim (h1 k) (h2 k)
theorem j_7 (h : ∀ k ∈ A ++ T, p k) : ∀ k ∈ A, p k := fun k hk => h k (List.mem_append_left _ hk)
theorem j_8 (h : ∀ k ∈ A ++ T, p k) : ∀ k ∈ T, p k := fun k hk => h k (List.mem_append_right _ hk)
theorem ltge (h : ∀ k ∈ A, n ≤ k) : ∀ k, k < n → k ∉ A := fun k hk ha => absurd hk (Nat.not_lt.2 (h k ha))
theorem nmN (q : Nat → Prop) : ∀ k, q k → k ∉ ([] : List Nat) := fun _ _ h => by cases h
theorem nmA {q : Nat → Prop} (h1 : ∀ k, q k → k ∉ A) (h2 : ∀ k, q k → k ∉ T) : ∀ k, q k → k ∉ A ++ T := fun k hk hm => (List.mem_append.1 hm).elim (h1 k hk) (h2 k hk)
theorem a_A (h : ∀ k ∈ T, k < m) (hmn : m ≤ n) : ∀ k, n ≤ k → k ∉ T := fun k hk ht => absurd (h k ht) (Nat.not_lt.2 (Nat.le_trans hmn hk))
theorem j_9 (h : ∀ k ∈ S, k ∉ T) : ∀ k ∈ T, k ∉ S := fun k hk hs => h k hs hk
theorem a_E (h : m ≤ n) : ∀ k, n ≤ k → m ≤ k := fun _ hk => Nat.le_trans h hk
theorem l_ (h : m ≤ n) : ∀ k, n ≤ k → k ∈ M ∨ m ≤ k := fun _ hk => .inr (Nat.le_trans h hk)
theorem inor (h : ∀ k ∈ A, k ∈ M) : ∀ k ∈ A, k ∈ M ∨ m ≤ k := fun k hk => .inl (h k hk)
theorem j_a : ∀ k ∈ A, k ∈ A := fun _ h => h
theorem a_T (h : ∀ k ∈ A, k ∈ S) : ∀ k ∈ A, k ∈ S ++ T := fun k hk => List.mem_append_left _ (h k hk)
theorem a_5 (h : ∀ k ∈ A, k ∈ T) : ∀ k ∈ A, k ∈ S ++ T := fun k hk => List.mem_append_right _ (h k hk)
theorem K_ : ([] : List Nat).Nodup := List.nodup_nil
theorem a_0 {g : Nat} : [g].Nodup := by simp
theorem h_c (h1 : S.Nodup) (h2 : T.Nodup) (h : ∀ k ∈ S, k ∉ T) : (S ++ T).Nodup := List.nodup_append.2 ⟨h1, h2, fun a ha b hb he => h a ha (he ▸ hb)⟩
theorem j_b (h : (S ++ T).Nodup) : S.Nodup := (List.nodup_append.1 h).1
theorem j_c (h : (S ++ T).Nodup) : T.Nodup := (List.nodup_append.1 h).2.1
theorem j_d (h : (S ++ T).Nodup) : ∀ k ∈ S, k ∉ T := fun k hs ht => (List.nodup_append.1 h).2.2 k hs k ht rfl
end
section
variable {a b c : World} {A M : List Nat}
theorem Chg.one {g : Nat} (h : Chg (· = g) a b) : Chg (· ∈ [g]) a b := h.mono fun k _ hk => List.mem_singleton.2 hk
theorem j_e (h : Below a.heap.size a b) (h' : Chg (· ∈ A) b c) (hx : ∀ k ∈ A, a.heap.size ≤ k) : Below a.heap.size a c := bchg h h' fun k hk hm => absurd hk (Nat.not_lt.2 (hx k hm))
theorem j_f (M : List Nat) (a : World) : Chg (· ∈ M) a a := Chg.refl _ _
theorem j_g (h : Chg (· ∈ M) a b) (h' : Chg (· ∈ A) b c) (hx : ∀ k ∈ A, k ∈ M ∨ a.heap.size ≤ k) : Chg (· ∈ M) a c := h.comp h' fun k hk hm => (hx k hm).elim id fun h => absurd hk (Nat.not_lt.2 h)
theorem z_ (h : Chg (· ∈ M) a b) (h' : Below b.heap.size b c) : Chg (· ∈ M) a c := h.ext h'
end
section
variable {X : Nat → Prop} {P : Program} {N : Nat} {e : Env} {w : World} {dst : Option Tmp} {ty : TypeId} {pos : String} {aft : Array Edge} {gd : Option (Nat × Bool)} {x y z : Operand} {T E : Nat}
theorem j_h {b : Bool} {v : Value} (h : ev e x = some (.bool b)) (hb : b = true) (hy : ev e y = some v) : Rd X P N ⟨dst, .pick x y z, ty, pos, aft, gd⟩ e w v := by subst hb; exact p_f h hy
theorem j_i {b : Bool} {v : Value} (h : ev e x = some (.bool b)) (hb : b = false) (hz : ev e z = some v) : Rd X P N ⟨dst, .pick x y z, ty, pos, aft, gd⟩ e w v := by subst hb; exact p_g h hz
theorem j_j {α : Type} [Dat α] {ao : Option Addr} {B : Zone} {n c : Nat} {l : List α} (hT : P.underlying T = some (.slice E)) (h : ev e x = some (.slice ao n c)) (hr : a_ w B (.slice ao n c) l) :
  Rd X P N ⟨dst, .call { callee := .builtin .len, args := #[x], argTypes := #[T] }, ty, pos, aft, gd⟩ e w (vI (l.length : Int)) := by
 obtain ⟨_, _, he, _⟩ := hr
 cases he
 exact p_h (args := #[]) (tys := #[]) hT h
theorem j_k {α : Type} [Dat α] {ao : Option Addr} {B : Zone} {n c sz' : Nat} {l : List α} {i : Int} {v : α} {kk : IntKind} (hT : P.underlying T = some (.slice E)) (hs : ∀ w, (sizeOf E).run P w = .ok sz' w) (hsz : sz' = sz α) (hx : ev e x = some (.slice ao n c)) (hy : ev e y = some (.int kk i)) (hr : a_ w B (.slice ao n c) l) (hi : idx l i = some v) :
  ∃ u, Rd X P N ⟨dst, .indexAddr T x y, ty, pos, aft, gd⟩ e w u ∧ ∃ b o cs, u = .pointer (some ⟨b, o, none⟩) ∧ M_ w b o cs ∧ rep w B cs v ∧ B b := by
 have hr0 := hr
 obtain ⟨ao', c', he, _, _, _, hp⟩ := hr
 cases he
 obtain ⟨b, o, cs, rfl, h0, h1, h2, h3⟩ := a_.at hr0 hi
 refine ⟨_, h_l (k := kk) hT hs hx hy h0 h1, b, _, cs, rfl, ?_, h3, ?_⟩
 ·rw [hsz]; exact h2
 ·refine (hp _ rfl).2.1 ?_
  rintro rfl
  simp at h1; omega
theorem d_1 {α : Type} [Dat α] {ao : Option Addr} {n c sz' : Nat} {S : List Nat} {l m : List α} {i : Int} {v : α} {kk : IntKind} (hT : P.underlying T = some (.slice E)) (hs : ∀ w, (sizeOf E).run P w = .ok sz' w) (hx : ev e x = some (.slice ao n c)) (hy : ev e y = some (.int kk i)) (hr : b_ w S (.slice ao n c) l) (hi : upd l i v = some m) :
  ∃ u, Rd X P N ⟨dst, .indexAddr T x y, ty, pos, aft, gd⟩ e w u ∧ ∃ g, ao = some ⟨g, 0, none⟩ ∧ u = .pointer (some ⟨g, 0 + i.toNat * sz', none⟩) := by
 obtain ⟨_, h0, h1⟩ := d_U hi
 obtain ⟨g, rfl⟩ := hr.head (by omega)
 obtain ⟨_, _, he, _⟩ := hr.rep
 cases he
 exact ⟨_, h_l (k := kk) hT hs hx hy h0 h1, g, rfl, rfl⟩
theorem f_l {α : Type} [Dat α] {B : Zone} {n c sz' : Nat} {ao : Option Addr} {l m : List α} {a b : Int} {lo hi : Option Operand} (hT : P.underlying T = some (.slice E)) (hs : ∀ w, (sizeOf E).run P w = .ok sz' w) (hsz : sz' = sz α) (hx : ev e x = some (.slice ao n c)) (h : a_ w B (.slice ao n c) l)
  (hlo : evo e lo 0 a) (hhi : evo e hi l.length b) (hm : slc l a b = some m) :
  ∃ v, Rd X P N ⟨dst, .slice T x lo hi none, ty, pos, aft, gd⟩ e w v ∧ ∃ ao' n' c', v = .slice ao' n' c' ∧ a_ w B (.slice ao' n' c') m := by
 have h' := h
 obtain ⟨_, _, he, _⟩ := h'
 cases he
 obtain ⟨ao', c', k1, k2⟩ := o_J (X := X) (P := P) (N := N) (w := w) (dst := dst) (ty := ty) (pos := pos) (aft := aft) (gd := gd) hT hs hsz hx h hlo hhi hm
 exact ⟨_, k1, ao', _, c', rfl, k2⟩
def evp (e : Env) : List (Nat × Operand) → Option (List (Nat × Value))
 | [] => some []
 | (i, x) :: l => match ev e x, evp e l with
  | some v, some vs => some ((i, v) :: vs)
  | _, _ => none
theorem Sat.evp {a : Act} (h : Sat N e a) : ∀ {l : List (Nat × Operand)} {vs : List (Nat × Value)}, evp e l = some vs → (l.map fun p => (p.1, a.eval p.2)) = vs
 | [], vs, hv => by simp only [Vw.evp, Option.some.injEq] at hv; subst hv; rfl
 | (i, x) :: l, vs, hv => by
  simp only [Vw.evp] at hv
  split at hv
  ·rename_i v vs' h1 h2
   simp only [Option.some.injEq] at hv
   subst hv
   simp [h.ev h1, Sat.evp h h2]
  ·cases hv
theorem j_l {zs cs : List Value} {places : List (Nat × Nat)} {parts : List (Nat × Operand)} {vs : List (Nat × Value)} (hB : d_r P T zs places) (hv : evp e parts = some vs) (hf : Instr.fill (places.toArray[·]?) zs.toArray vs = some cs.toArray) :
  Rd X P N ⟨dst, .build T parts.toArray, ty, pos, aft, gd⟩ e w (.agg cs.toArray) :=
 o_K hB (fun a ha => by rw [List.map_toArray]; exact ha.evp hv) hf
end
section
variable {X : Nat → Prop} {P : Program} {N : Nat} {e : Env} {w : World} {dst : Option Tmp} {ty : TypeId} {pos : String} {aft : Array Edge} {gd : Option (Nat × Bool)} {x y z : Operand} {T E : Nat}
theorem c_E {α : Type} [Dat α] {S Si : List Nat} {g n c : Nat} {ao : Option Addr} {i : Int} {l m : List α} {v : α} {u : Value} {cs : List Value} {sz' : Nat} (hs : ∀ w, (sizeOf T).run P w = .ok sz' w) (hsz : sz' = sz α) (hao : ao = some ⟨g, 0, none⟩) (hx : ev e x = some (.pointer (some ⟨g, 0 + i.toNat * sz', none⟩))) (hy : ev e y = some u) (hu : u.cells.toList = cs)
  (hm : upd l i v = some m) (ho : b_ w S (.slice ao n c) l) (hN : S.Nodup) (hv : own w Si cs v) (hD : ∀ k ∈ Si, k ∉ S) (hSi : Si.Nodup) :
  Ef P N ⟨none, .store T x y, ty, pos, aft, gd⟩ e w (fun _ w' => ∃ S', Chg (· ∈ S) w w' ∧ b_ w' S' (.slice ao n c) m ∧ S'.Nodup ∧ (∀ k ∈ S', k ∈ S ∨ k ∈ Si ∨ w.heap.size ≤ k)) := by
 subst hao
 have h := ef_set (P := P) (N := N) (ty := ty) (pos := pos) (aft := aft) (gd := gd) hs hsz hx hy hu hm ho hN hv hD hSi
 constructor
 intro a ha Q
 refine Oper.wp_mono ?_ (h.run a ha Q)
 rintro a' w' ⟨v', rfl, S', k1, k2, k3, k4⟩
 have hn : n = m.length := by
  obtain ⟨rfl, _, _⟩ := d_U hm
  obtain ⟨_, _, he, _⟩ := ho.rep
  cases he; simp
 obtain ⟨_, _, _, _, hg⟩ := ho.blk
 subst hn
 exact ⟨v', rfl, S', k3.mono (fun k _ hk => hk ▸ hg), k1, k2, fun k hk => (k4 k hk).elim .inl fun h => .inr (.inl h)⟩
theorem b_d {α : Type} [Dat α] {bytes : Nat} {zz : Value} (hE : El P T E (sz α) bytes zz) {S Si : List Nat} {sv : Value} {l m : List α} {v : α} {g : Nat} {cs : List Value} (hm : psh l v = some m) (hx : ev e x = some sv) (hy : ev e y = some (.slice (some ⟨g, 0, none⟩) 1 1))
  (ho : b_ w S sv l) (hN : S.Nodup) (hB : Blk w g cs) (hv : own w Si cs v) (hD : ∀ k ∈ Si, k ∉ S) (hSi : Si.Nodup) :
  Ef P N ⟨dst, .call { callee := .builtin .append, args := #[x, y], argTypes := #[T, T] }, ty, pos, aft, gd⟩ e w (fun v' w' => ∃ S' ao n c, v' = .slice ao n c ∧ Chg (· ∈ S) w w' ∧ b_ w' S' (.slice ao n c) m ∧ S'.Nodup ∧ (∀ k ∈ S', k ∈ S ∨ k ∈ Si ∨ w.heap.size ≤ k)) := by
 have h := o_G (P := P) (N := N) (w := w) (dst := dst) (ty := ty) (pos := pos) (aft := aft) (gd := gd) hE hm hx hy ho hN hB hv hD hSi
 constructor
 intro a ha Q
 refine Oper.wp_mono ?_ (h.run a ha Q)
 rintro a' w' ⟨v', rfl, S', ao, c, rfl, k1, k2, k3, k4⟩
 exact ⟨_, rfl, S', ao, _, c, rfl, k3, k1, k2, fun k hk => (k4 k hk).elim .inl fun h => .inr (h.elim .inl fun h => .inr (Nat.le_of_eq h.symm))⟩
theorem h_d {α : Type} [Dat α] [a_g α] {bytes : Nat} {zz : Value} (hE : El P T E (sz α) bytes zz) {S : List Nat} {sv : Value} {l m xs : List α} {B : Zone} {n0 c0 : Nat} {ao0 : Option Addr} (hm : app l xs = some m) (hx : ev e x = some sv) (hy : ev e y = some (.slice ao0 n0 c0))
  (ho : b_ w S sv l) (hN : S.Nodup) (hr : a_ w B (.slice ao0 n0 c0) xs) :
  Ef P N ⟨dst, .call { callee := .builtin .append, args := #[x, y], argTypes := #[T, T] }, ty, pos, aft, gd⟩ e w (fun v' w' => ∃ S' ao n c, v' = .slice ao n c ∧ Chg (· ∈ S) w w' ∧ b_ w' S' (.slice ao n c) m ∧ S'.Nodup ∧ (∀ k ∈ S', k ∈ S ∨ w.heap.size ≤ k)) := by
 have hr' := hr
 obtain ⟨_, _, he, _⟩ := hr'
 cases he
 have h := o_H (P := P) (N := N) (w := w) (dst := dst) (ty := ty) (pos := pos) (aft := aft) (gd := gd) hE hm hx hy ho hN hr
 constructor
 intro a ha Q
 refine Oper.wp_mono ?_ (h.run a ha Q)
 rintro a' w' ⟨v', rfl, S', ao, c, rfl, k1, k2, k3, k4⟩
 exact ⟨_, rfl, S', ao, _, c, rfl, k3, k1, k2, fun k hk => (k4 k hk).elim .inl fun h => .inr (h.elim (fun h => by cases h) fun h => Nat.le_of_eq h.symm)⟩
theorem d_V {α : Type} [Dat α] {bytes : Nat} {zz : Value} {n : Int} {l : List α} {z0 : α} (hE : El P T E (sz α) bytes zz) (hz : ∀ w, own w [] zz.cells.toList z0) (hm : mk0 z0 n = some l) (hx : ev e x = some (vI n)) (hy : ev e y = some (vI n)) :
  Ef P N ⟨dst, .makeSlice T x y, ty, pos, aft, gd⟩ e w (fun v w' => ∃ ao n c, v = .slice ao n c ∧ Below w.heap.size w w' ∧ b_ w' [w.heap.size] (.slice ao n c) l) := by
 have h := o_O (P := P) (N := N) (w := w) (dst := dst) (ty := ty) (pos := pos) (aft := aft) (gd := gd) hE hz hm hx hy
 constructor
 intro a ha Q
 refine Oper.wp_mono ?_ (h.run a ha Q)
 rintro a' w' ⟨v', rfl, rfl, k1, k2, k3⟩
 exact ⟨_, rfl, _, _, _, rfl, k2, k1⟩
theorem j_m {α : Type} [Dat α] {bytes : Nat} {zz : Value} (hE : El P T E (sz α) bytes zz) :
  Ef P N ⟨dst, .buildSlice T 0 #[], ty, pos, aft, gd⟩ e w (fun v w' => ∃ ao n c, v = .slice ao n c ∧ Below w.heap.size w w' ∧ b_ w' [w.heap.size] (.slice ao n c) ([] : List α)) := by
 have h := l_0 (P := P) (N := N) (e := e) (w := w) (dst := dst) (ty := ty) (pos := pos) (aft := aft) (gd := gd) hE
 constructor
 intro a ha Q
 refine Oper.wp_mono ?_ (h.run a ha Q)
 rintro a' w' ⟨v', rfl, rfl, k⟩
 exact ⟨_, rfl, _, _, _, rfl, k.below, o_F k⟩
end
end Go.Vw
