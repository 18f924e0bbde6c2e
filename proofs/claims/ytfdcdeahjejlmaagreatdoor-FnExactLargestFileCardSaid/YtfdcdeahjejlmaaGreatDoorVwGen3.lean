import Derived.Test.YtfdcdeahjejlmaaGreatDoorVwGen2
namespace Go.Vw
open Go.RowKit Dat
theorem updS {α : Type} {l m : List α} {i : Int} {x : α} (h : upd l i x = some m) : m = l.set i.toNat x ∧ 0 ≤ i ∧ i < l.length := by
 unfold upd at h
 split at h
 ·rename_i hl; exact ⟨(Option.some.inj h).symm, hl⟩
 ·cases h
theorem chunk_set {n i j k : Nat} {l cs : List Value} (hl : l.length = k * n) (hc : cs.length = n) (hi : i < k) (hj : j < k) :
  chunk n j (l.take (i * n) ++ cs ++ l.drop (i * n + n)) = if j = i then cs else chunk n j l := by
 have h1 : (i + 1) * n ≤ k * n := Nat.mul_le_mul_right n hi
 rw [Nat.succ_mul] at h1
 have htk : (l.take (i * n)).length = i * n := by simp; omega
 have htc : (l.take (i * n) ++ cs).length = (i + 1) * n := by simp [hc, Nat.succ_mul]; omega
 by_cases hji : j = i
 ·subst hji
  rw [if_pos rfl, chunk_left htc (Nat.lt_succ_self _), chunk_right htk (Nat.le_refl _), Nat.sub_self, chunk_one cs _ hc]
 ·rw [if_neg hji]
  by_cases hlt : j < i
  ·rw [chunk_left htc (by omega), chunk_left htk hlt, chunk_take hlt]
  ·rw [chunk_right htc (by omega)]
   unfold chunk
   rw [List.drop_drop]
   congr 2
   have : j = (i + 1) + (j - (i + 1)) := by omega
   calc i * n + n + (j - (i + 1)) * n = (i + 1) * n + (j - (i + 1)) * n := by rw [Nat.succ_mul]
    _ = j * n := by rw [← Nat.add_mul, ← this]
theorem ownS_set {α : Type} [Dat α] {w w' : World} {S Si : List Nat} {g n c i : Nat} {l : List α} {x : α} {cs : List Value} (ho : ownS w S (.slice (some ⟨g, 0, none⟩) n c) l) (hN : S.Nodup) (hi : i < l.length) (hx : own w Si cs x) (hD : ∀ k ∈ Si, k ∉ S) (hSi : Si.Nodup)
  (hB : ∀ cur, Blk w g cur → Blk w' g (cur.take (i * sz α) ++ cs ++ cur.drop (i * sz α + sz α))) (hch : Chg (· = g) w w') :
  ∃ S', ownS w' S' (.slice (some ⟨g, 0, none⟩) (l.set i x).length c) (l.set i x) ∧ S'.Nodup ∧ (∀ k ∈ S', k ∈ S ∨ k ∈ Si) := by
 rcases ho with ⟨h, _⟩ | ⟨g', c', cur, Ss, he, h1, h2, h3, h4, rfl, h6, h7⟩
 ·cases h
 ·simp only [Value.slice.injEq, Option.some.injEq, Addr.mk.injEq, and_true, true_and] at he
  obtain ⟨rfl, rfl, rfl⟩ := he
  have hcs := rep_len (own_rep' hx)
  have hic : i < c := Nat.lt_of_lt_of_le hi h1
  have hle : i * sz α + sz α ≤ cur.length := by rw [h4, ← Nat.succ_mul]; exact Nat.mul_le_mul_right _ hic
  obtain ⟨hgn, hfn⟩ := List.nodup_cons.1 hN
  have hgS : ∀ (j : Nat) Sj, Ss[j]? = some Sj → ∀ k ∈ Sj, ¬ k = g := fun j Sj hSj k hk hk' => hgn (hk' ▸ mem_flatten_of hSj hk)
  have hsub : ∀ k ∈ List.flatten (Ss.set i Si), k ∈ List.flatten Ss ∨ k ∈ Si := by
   intro k hk
   obtain ⟨Sj, hSj, hk⟩ := List.mem_flatten.1 hk
   rcases List.mem_or_eq_of_mem_set hSj with h | h
   ·exact .inl (List.mem_flatten.2 ⟨Sj, h, hk⟩)
   ·exact .inr (h ▸ hk)
  refine ⟨g :: List.flatten (Ss.set i Si), .inr ⟨g, c, _, Ss.set i Si, rfl, by simpa using h1, by simpa using h2, hB cur h3, ?_, rfl, by simp [h6], ?_⟩, ?_, ?_⟩
  ·rw [← h4]; simp [hcs]; omega
  ·intro j y Sj hy hSj
   have hj : j < l.length := by have := (List.getElem?_eq_some_iff.1 hy).1; simpa using this
   show own w' Sj (chunk (sz α) j _) y
   rw [chunk_set h4 hcs hic (Nat.lt_of_lt_of_le hj h1)]
   by_cases hji : j = i
   ·subst hji
    rw [if_pos rfl]
    rw [List.getElem?_set_self hj] at hy
    rw [List.getElem?_set_self (by omega)] at hSj
    simp only [Option.some.injEq] at hy hSj
    subst hy hSj
    exact own_chg hx hch (fun k hk hk' => hD k hk (hk' ▸ List.mem_cons_self))
   ·rw [if_neg hji]
    rw [List.getElem?_set_ne (Ne.symm hji)] at hy hSj
    exact own_chg (h7 j y Sj hy hSj) hch (hgS j Sj hSj)
  ·refine List.nodup_cons.2 ⟨fun hm => ?_, ?_⟩
   ·rcases hsub g hm with h | h
    ·exact hgn h
    ·exact hD g h List.mem_cons_self
   ·rw [List.nodup_iff_pairwise_ne] at *
    rw [List.pairwise_flatten] at hfn ⊢
    obtain ⟨p1, p2⟩ := hfn
    refine ⟨fun Sj hSj => ?_, ?_⟩
    ·rcases List.mem_or_eq_of_mem_set hSj with h | rfl
     ·exact p1 Sj h
     ·exact hSi
    ·rw [List.pairwise_iff_getElem] at p2 ⊢
     intro a b ha hb hab u hu v hv
     have ha' : a < Ss.length := by simpa using ha
     have hb' : b < Ss.length := by simpa using hb
     have notS : ∀ (j : Nat) (hj : j < Ss.length) (t : Nat), t ∈ Ss[j] → t ∉ Si := fun j hj t ht ht' => hD t ht' (List.mem_cons_of_mem _ (List.mem_flatten.2 ⟨Ss[j], List.getElem_mem hj, ht⟩))
     rw [List.getElem_set] at hu hv
     by_cases hai : i = a
     ·rw [if_pos hai] at hu
      rw [if_neg (by omega)] at hv
      intro huv
      exact notS b hb' v hv (huv ▸ hu)
     ·rw [if_neg hai] at hu
      by_cases hbi : i = b
      ·rw [if_pos hbi] at hv
       intro huv
       exact notS a ha' u hu (huv ▸ hv)
      ·rw [if_neg hbi] at hv
       exact p2 a b ha' hb' hab u hu v hv
  ·intro k hk
   rcases List.mem_cons.1 hk with rfl | hk
   ·exact .inl List.mem_cons_self
   ·exact (hsub k hk).imp (List.mem_cons_of_mem _) id
theorem ownS.blk {α : Type} [Dat α] {w : World} {S : List Nat} {g n c : Nat} {l : List α} (h : ownS w S (.slice (some ⟨g, 0, none⟩) n c) l) : ∃ cur, Blk w g cur ∧ cur.length = c * sz α ∧ l.length ≤ c ∧ g ∈ S := by
 rcases h with ⟨h, _⟩ | ⟨g', c', cur, Ss, he, h1, h2, h3, h4, rfl, _⟩
 ·cases h
 ·simp only [Value.slice.injEq, Option.some.injEq, Addr.mk.injEq, and_true, true_and] at he
  obtain ⟨rfl, rfl, rfl⟩ := he
  exact ⟨cur, h3, h4, h1, List.mem_cons_self⟩
theorem ownS.head {α : Type} [Dat α] {w : World} {S : List Nat} {ao : Option Addr} {n c : Nat} {l : List α} (h : ownS w S (.slice ao n c) l) (hl : 0 < l.length) : ∃ g, ao = some ⟨g, 0, none⟩ := by
 rcases h with ⟨_, rfl, _⟩ | ⟨g', c', cur, Ss, he, _⟩
 ·simp at hl
 ·simp only [Value.slice.injEq] at he
  exact ⟨g', he.1⟩
section
variable {P : Program} {N : Nat} {e : Env} {w : World} {dst : Option Tmp} {ty : TypeId} {pos : String} {aft : Array Edge} {gd : Option (Nat × Bool)} {x y z : Operand} {T T' : Nat}
theorem ef_set {α : Type} [Dat α] {S Si : List Nat} {g n c : Nat} {i : Int} {l m : List α} {v : α} {u : Value} {cs : List Value} {sz' : Nat} (hs : ∀ w, (sizeOf T).run P w = .ok sz' w) (hsz : sz' = sz α) (hx : ev e x = some (.pointer (some ⟨g, 0 + i.toNat * sz', none⟩))) (hy : ev e y = some u) (hu : u.cells.toList = cs)
  (hm : upd l i v = some m) (ho : ownS w S (.slice (some ⟨g, 0, none⟩) n c) l) (hN : S.Nodup) (hv : own w Si cs v) (hD : ∀ k ∈ Si, k ∉ S) (hSi : Si.Nodup) :
  Ef P N ⟨none, .store T x y, ty, pos, aft, gd⟩ e w (fun _ w' => ∃ S', ownS w' S' (.slice (some ⟨g, 0, none⟩) m.length c) m ∧ S'.Nodup ∧ Chg (· = g) w w' ∧ (∀ k ∈ S', k ∈ S ∨ k ∈ Si)) := by
 subst hsz hu
 obtain ⟨rfl, h0, h1⟩ := updS hm
 obtain ⟨cur, hB, hcl, hlc, _⟩ := ho.blk
 have hcs := rep_len (own_rep' hv)
 have hi : i.toNat < l.length := by omega
 have hle : i.toNat * sz α + sz α ≤ cur.length := by rw [hcl, ← Nat.succ_mul]; exact Nat.mul_le_mul_right _ (Nat.lt_of_lt_of_le hi hlc)
 have h := ef_store (P := P) (N := N) (ty := ty) (pos := pos) (aft := aft) (gd := gd) hs hx hy hB (by simpa using hcs) (by omega) (rep_one (own_rep' hv)) rfl
 constructor
 intro a ha Q
 refine Oper.wp_mono ?_ (h.run a ha Q)
 rintro a' w' ⟨v', rfl, hb, hch⟩
 obtain ⟨S', k1, k2, k3⟩ := ownS_set (i := i.toNat) (x := v) (cs := u.cells.toList) ho hN hi hv hD hSi (fun cur' hc' => by
  obtain rfl := hB.uniq hc'
  rw [hcs, Nat.zero_add] at hb
  exact hb) hch
 exact ⟨v', rfl, S', k1, k2, hch, k3⟩
theorem mk0S {α : Type} {z : α} {n : Int} {l : List α} (h : mk0 z n = some l) : l = List.replicate n.toNat z ∧ 0 ≤ n ∧ n ≤ LIM := by
 unfold mk0 at h
 split at h
 ·rename_i hl; exact ⟨(Option.some.inj h).symm, hl⟩
 ·cases h
theorem chunk_made {n i k : Nat} {z : Array Value} (hz : z.size = n) (hi : i < k) : chunk n i (madeCells z (k * n)).toList = z.toList := by
 have h1 : (i + 1) * n ≤ k * n := Nat.mul_le_mul_right n hi
 rw [Nat.succ_mul] at h1
 unfold chunk madeCells
 apply List.ext_getElem?
 intro j
 rw [List.getElem?_take]
 by_cases hj : j < n
 ·rw [if_pos hj, List.getElem?_drop]
  have hmod : (i * n + j) % n = j := by rw [Nat.add_comm, Nat.add_mul_mod_self_right, Nat.mod_eq_of_lt hj]
  simp only [Array.toList_map, Array.toList_range, List.getElem?_map]
  rw [List.getElem?_range (by omega)]
  have hjz : j < z.size := by omega
  simp [hz, hmod]
  simp [hjz]
 ·rw [if_neg hj]
  simp [hz]; omega
theorem ef_make0 {α : Type} [Dat α] {E bytes : Nat} {zz : Value} {n : Int} {l : List α} {z0 : α} (hE : El P T E (sz α) bytes zz) (hz : ∀ w, own w [] zz.cells.toList z0) (hm : mk0 z0 n = some l) (hx : ev e x = some (vI n)) (hy : ev e y = some (vI n)) :
  Ef P N ⟨dst, .makeSlice T x y, ty, pos, aft, gd⟩ e w (fun v w' => v = .slice (some ⟨w.heap.size, 0, none⟩) l.length l.length ∧ ownS w' [w.heap.size] (.slice (some ⟨w.heap.size, 0, none⟩) l.length l.length) l ∧ Below w.heap.size w w' ∧ w'.heap.size = w.heap.size + 1) := by
 obtain ⟨rfl, h0, h1⟩ := mk0S hm
 have hb : (bytes : Int) * n ≤ 281474976710656 := by
  have := LIM_mul (n := n.toNat) (by omega) hE.sm
  have h2 : ((n.toNat * bytes : Nat) : Int) ≤ 140737488355328 := by omega
  rw [Int.natCast_mul, Int.toNat_of_nonneg h0] at h2
  rw [Int.mul_comm]; omega
 have h := ef_make (P := P) (N := N) (w := w) (dst := dst) (ty := ty) (pos := pos) (aft := aft) (gd := gd) hE hx hy h0 (Int.le_refl _) hb (by have := LIM_le; have := LEN_le; omega)
 constructor
 intro a ha Q
 refine Oper.wp_mono ?_ (h.run a ha Q)
 rintro a' w' ⟨v', rfl, rfl, hn⟩
 refine ⟨_, rfl, by simp, .inr ⟨w.heap.size, n.toNat, _, List.replicate n.toNat [], by simp, by simp, ?_, hn.blk, by simp [size_madeCells], ?_, by simp, ?_⟩, hn.below, hn.size⟩
 ·simp; have := LIM_le; omega
 ·simp
 ·intro i y Si hy hSi
  have hi : i < n.toNat := by have := (List.getElem?_eq_some_iff.1 hy).1; simpa using this
  rw [List.getElem?_replicate, if_pos hi] at hy hSi
  simp only [Option.some.injEq] at hy hSi
  subst hy hSi
  show own w' [] (chunk (sz α) i _) z0
  rw [chunk_made hE.zlen hi]
  exact hz w'
end
end Go.Vw
