import Derived.Test.YtfdcdeahjejlmaaGreatDoorVqFun
import Derived.Test.YtfdcdeahjejlmaaGreatDoorVqVal
import Derived.Laws.CopyRow
import Derived.Laws.IdiomStrings
import Derived.Lib.AppendStr
set_option linter.unusedVariables false
namespace Go.Vw
open Go.RowKit Dat
def a_f (l : List UInt8) : List Value := l.map fun b => vU (byteI b)
theorem d_O {l : List UInt8} {i : Nat} {x : UInt8} (h : l[i]? = some x) : (a_f l)[i]? = some (vU (byteI x)) := by simp [a_f, h]
theorem c_6 (l : List UInt8) : (a_f l).length = l.length := by simp [a_f]
theorem k_M (l : List UInt8) : ∀ u ∈ a_f l, u.oneCell' = true := by
 intro u hu
 simp only [a_f, List.mem_map] at hu
 obtain ⟨b, _, rfl⟩ := hu; rfl
theorem f_c : sz UInt8 = 1 := rfl
section
variable {w w' : World} {S : List Nat} {v : Value} {l xs : List UInt8} {B : Zone}
theorem c_X : b_ w S v l ↔ (v = .slice none 0 0 ∧ l = [] ∧ S = []) ∨ ∃ g c cur, v = .slice (some ⟨g, 0, none⟩) l.length c ∧ l.length ≤ c ∧ l.length ≤ LEN ∧ Blk w g cur ∧ cur.length = c ∧ S = [g] ∧ cur.take l.length = a_f l := by
 constructor
 ·rintro (h | ⟨g, c, cur, Ss, h1, h2, h3, h4, h5, h6, h7, h8⟩)
  ·exact .inl h
  ·rw [f_c, Nat.mul_one] at h5
   refine .inr ⟨g, c, cur, h1, h2, h3, h4, h5, ?_, ?_⟩
   ·have e1 : List.flatten Ss = [] := List.flatten_eq_nil_iff.2 fun L hL => by
     obtain ⟨i, hi⟩ := List.getElem?_of_mem hL
     obtain ⟨x, hx⟩ := zip_some' h7 hi
     exact (h8 i x L hx hi).1
    rw [h6, e1]
   ·apply List.ext_getElem?
    intro i
    by_cases hi : i < l.length
    ·obtain ⟨Si, hSi⟩ := f_t h7 (List.getElem?_eq_getElem hi)
     have := h8 i _ Si (List.getElem?_eq_getElem hi) hSi
     obtain ⟨_, u, hu, rfl⟩ := this
     rw [f_c, Nat.mul_one] at hu
     rw [d_O (List.getElem?_eq_getElem hi), List.getElem?_take, if_pos hi]
     have h0 : ((cur.drop i).take 1)[0]? = some (vU (byteI l[i])) := by rw [hu]; rfl
     simpa using h0
    ·rw [List.getElem?_eq_none (by simp; omega), List.getElem?_eq_none (by simp [a_f]; omega)]
 ·rintro (h | ⟨g, c, cur, h1, h2, h3, h4, h5, h6, h7⟩)
  ·exact .inl h
  ·refine .inr ⟨g, c, cur, List.replicate l.length [], h1, h2, h3, h4, by rw [f_c, Nat.mul_one]; exact h5, ?_, by simp, fun i x Si hx hS => ?_⟩
   ·rw [h6]; simp
   ·have hi := (List.getElem?_eq_some_iff.1 hx).1
    have : Si = [] := by
     have := (List.getElem?_eq_some_iff.1 hS).2
     simpa using this.symm
    refine ⟨this, vU (byteI x), ?_, rfl⟩
    rw [f_c, Nat.mul_one]
    have h8 : cur[i]? = some (vU (byteI x)) := by
     rw [← d_O hx, ← h7, List.getElem?_take, if_pos hi]
    have hic := (List.getElem?_eq_some_iff.1 h8).1
    rw [List.drop_eq_getElem_cons hic]
    simp only [List.take_succ_cons, List.take_zero]
    rw [(List.getElem?_eq_some_iff.1 h8).2]
theorem n_U {ao : Option Addr} {n c : Nat} (h : a_ w B (.slice ao n c) l) : n = l.length ∧ (ao = none → l = []) ∧ ∀ p, ao = some p → (l ≠ [] → p.spot = none) ∧ M_ w p.block p.off (a_f l) := by
 obtain ⟨_, _, he, h1, h2, h3, h4⟩ := h
 cases he
 refine ⟨rfl, h3, fun p hp => ⟨(h4 p hp).1, fun i v hv => ?_⟩⟩
 have hil : i < l.length := by have := (List.getElem?_eq_some_iff.1 hv).1; rwa [c_6] at this
 obtain ⟨cs, hc, u, rfl, rfl⟩ := (h4 p hp).2.2 i l[i] (List.getElem?_eq_getElem hil)
 rw [d_O (List.getElem?_eq_getElem hil)] at hv
 cases hv
 have := hc 0 _ rfl
 rw [f_c, Nat.mul_one] at this
 exact this
end
section
variable {P : Program} {N : Nat} {X : Nat → Prop} {e : Env} {w : World} {dst : Option Tmp} {ty : TypeId} {pos : String} {aft : Array Edge} {gd : Option (Nat × Bool)} {x y : Operand} {T T2 E : TypeId}
def cpy (l xs : List UInt8) : List UInt8 := xs.take l.length ++ l.drop xs.length
theorem f_d (l xs : List UInt8) : (cpy l xs).length = l.length := by simp [cpy]; omega
theorem Blk.alloc' (w : World) (cur : Array Value) (T : TypeId) (fr : Nat × Nat) (h : fr.2 ≤ fr.1 ∨ cur.size ≤ fr.1) : Blk (w.alloc (.cells cur T fr)) w.heap.size cur.toList := by
 refine ⟨T, fr, ?_, by simpa using h⟩
 show (w.heap.push (.cells cur T fr))[w.heap.size]? = _
 simp
theorem n_V {S : List Nat} {B : Zone} {n c n0 c0 : Nat} {ao ao0 : Option Addr} {l xs : List UInt8} (hT : P.underlying T = some (.slice E)) (hs : ∀ w, (sizeOf E).run P w = .ok 1 w) (hx : ev e x = some (.slice ao n c)) (hy : ev e y = some (.slice ao0 n0 c0))
  (ho : b_ w S (.slice ao n c) l) (hr : a_ w B (.slice ao0 n0 c0) xs) :
  Ef P N ⟨dst, .call { callee := .builtin .copy, args := #[x, y], argTypes := #[T, T2] }, ty, pos, aft, gd⟩ e w (fun v w' => v = vI (Nat.min xs.length l.length : Nat) ∧ Chg (· ∈ S) w w' ∧ b_ w' S (.slice ao n c) (cpy l xs)) := by
 obtain ⟨rfl, hr1, hr2⟩ := n_U hr
 constructor
 intro a ha Q
 have hx' := ha.ev hx
 have hy' := ha.ev hy
 have cells : ∀ k, k ≤ xs.length → (Builtin.firstCells 1 k (.slice ao0 xs.length c0)).run P w = .ok (a_f (xs.take k)).toArray w := by
  intro k hk
  cases ao0 with
  | none => obtain rfl := hr1 rfl; simp [Builtin.firstCells, a_f]
  | some p =>
   obtain ⟨k1, k2⟩ := hr2 p rfl
   have hl := run_loadCells_list (P := P) w p (a_f (xs.take k)) fun j v hv => by
    have hj : j < k := by have := (List.getElem?_eq_some_iff.1 hv).1; rw [c_6] at this; simp at this; omega
    have hv' : (a_f xs)[j]? = some v := by
     simp only [a_f, List.map_take] at hv ⊢
     rw [List.getElem?_take, if_pos hj] at hv; exact hv
    have hne : xs ≠ [] := by rintro rfl; simp [a_f] at hv'
    have := k2 j v hv'
    have hpe : p = ⟨p.block, p.off, none⟩ := by cases p; simp only at k1; rw [k1 hne]
    rw [hpe, Addr.add_lit]; exact this
   rw [c_6, List.length_take, Nat.min_eq_left hk] at hl
   simp only [Builtin.firstCells, Nat.mul_one]
   exact hl
 have hk := cells (Nat.min xs.length n) (Nat.min_le_left _ _)
 unfold Oper.wp
 rcases c_X.1 ho with ⟨he, rfl, rfl⟩ | ⟨g, c', cur, he, h2, h3, h4, h5, rfl, h7⟩
 ·cases he
  have hk0 := cells 0 (Nat.zero_le _)
  have hrun : (execOp a.eval ⟨dst, .call { callee := .builtin .copy, args := #[x, y], argTypes := #[T, T2] }, ty, pos, aft, gd⟩).run P w = .ok (.value (vI ((Nat.min xs.length 0 : Nat) : Int))) w := by
   simp [execOp, resolve, invoke, builtin, hx', hy', Builtin.copy_, run_underlying hT, Builtin.lenOf, hs, hk0, goInt]
  rw [hrun]
  refine ⟨_, rfl, rfl, Chg.refl _ _, c_X.2 (.inl ⟨rfl, ?_, rfl⟩)⟩
  simp [cpy]
 ·cases he
  have hmn : Nat.min xs.length l.length ≤ cur.length := Nat.le_trans (Nat.min_le_right _ _) (by omega)
  obtain ⟨w', hst, hb', hch⟩ := f_r (P := P) (o := 0) (a_f (xs.take (Nat.min xs.length l.length))) 0 w cur h4 (by rw [c_6, List.length_take]; simp; omega) (k_M _)
  have hrun : (execOp a.eval ⟨dst, .call { callee := .builtin .copy, args := #[x, y], argTypes := #[T, T2] }, ty, pos, aft, gd⟩).run P w = .ok (.value (vI ((Nat.min xs.length l.length : Nat) : Int))) w' := by
   simp [execOp, resolve, invoke, builtin, hx', hy', Builtin.copy_, run_underlying hT, Builtin.lenOf, hs, hk, goInt, hst]
  rw [hrun]
  refine ⟨_, rfl, rfl, hch.mono fun k _ hk => by rw [hk]; exact List.mem_singleton.2 rfl, c_X.2 (.inr ⟨g, c, _, ?_, ?_, ?_, hb', ?_, rfl, ?_⟩)⟩
  ·rw [f_d]
  ·rw [f_d]; exact h2
  ·rw [f_d]; exact h3
  ·simp [a_f]; omega
  ·have e0 : Nat.min xs.length l.length = min xs.length l.length := rfl
   rw [f_d, e0]
   apply List.ext_getElem?
   intro i
   rw [List.getElem?_take]
   by_cases hi : i < l.length
   ·rw [if_pos hi]
    have hc : cur[i]? = some (vU (byteI l[i])) := by
     rw [← d_O (List.getElem?_eq_getElem hi), ← h7, List.getElem?_take, if_pos hi]
    simp only [Nat.zero_add, List.take_zero, List.nil_append]
    by_cases hx : i < xs.length
    ·rw [List.getElem?_append_left (by rw [c_6, List.length_take]; omega)]
     have q : (cpy l xs)[i]? = some xs[i] := by
      unfold cpy
      rw [List.getElem?_append_left (by rw [List.length_take]; omega), List.getElem?_take, if_pos hi]
      exact List.getElem?_eq_getElem hx
     rw [d_O q]
     refine d_O ?_
     rw [List.getElem?_take, if_pos (by omega)]
     exact List.getElem?_eq_getElem hx
    ·rw [List.getElem?_append_right (by rw [c_6, List.length_take]; omega)]
     have q : (cpy l xs)[i]? = some l[i] := by
      unfold cpy
      rw [List.getElem?_append_right (by rw [List.length_take]; omega), List.getElem?_drop, List.length_take]
      rw [show xs.length + (i - min l.length xs.length) = i by omega]
      exact List.getElem?_eq_getElem hi
     rw [d_O q, List.getElem?_drop, c_6, List.length_take]
     rw [show min (min xs.length l.length) xs.length + (i - min (min xs.length l.length) xs.length) = i by omega]
     exact hc
   ·rw [if_neg hi, List.getElem?_eq_none (by rw [c_6, f_d]; omega)]
theorem n_W {S D : TypeId} {s : Str} (hS : P.underlying S = some .string) (hD : P.underlying D = some (.slice E)) (hE : P.underlying E = some (.int .u8)) (hx : ev e x = some s.v) (hl : s.b.length ≤ LEN) :
  Ef P N ⟨dst, .convert S D x, ty, pos, aft, gd⟩ e w (fun v w' => ∃ ao n c, v = .slice ao n c ∧ Below w.heap.size w w' ∧ b_ w' [w.heap.size] (.slice ao n c) s.b) := by
 constructor
 intro a ha Q
 unfold Oper.wp
 have hx' := ha.ev hx
 have hr := run_bytes_of_string (P := P) w S D E ⟨s.b.toArray⟩ hS hD hE
 have hrun : (execOp a.eval ⟨dst, .convert S D x, ty, pos, aft, gd⟩).run P w = .ok (.value (.slice (some ⟨w.heap.size, 0, none⟩) s.b.length (grownCap w s.b.length 0 E))) (w.drew.alloc (.cells (bytesRow ⟨s.b.toArray⟩ (grownCap w s.b.length 0 E)) E ((bytesRow ⟨s.b.toArray⟩ (grownCap w s.b.length 0 E)).size, (bytesRow ⟨s.b.toArray⟩ (grownCap w s.b.length 0 E)).size + 1))) := by
  have hr' : (convert S D (Str.v s)).run P w = _ := hr
  simp only [execOp, hx', Sem.run_bind, hr', Result.andThen_ok]
  rfl
 rw [hrun]
 have hge : s.b.length ≤ grownCap w s.b.length 0 E := grownCap_ge w s.b.length 0 E
 refine ⟨_, rfl, _, _, _, rfl, Below.trans (d_Y w) (a_B w.drew _), c_X.2 (.inr ⟨w.heap.size, _, _, rfl, hge, hl, Blk.alloc' w.drew _ _ _ (.inr (Nat.le_refl _)), ?_, rfl, ?_⟩)⟩
 ·simp [bytesRow, ByteArray.size]; omega
 ·simp [bytesRow, a_f]
theorem strB (s : Str) : Go.Lib.strCells ⟨s.b.toArray⟩ = a_f s.b := by simp [Go.Lib.strCells, a_f]
theorem n_X {U : TypeId} {zz : Value} (hE : El P T E (sz UInt8) 1 zz) (hU : P.underlying U = some .string) {S : List Nat} {sv : Value} {l m : List UInt8} {s : Str} (hm : app l s.b = some m) (hx : ev e x = some sv) (hy : ev e y = some s.v)
  (ho : b_ w S sv l) (hN : S.Nodup) :
  Ef P N ⟨dst, .call { callee := .builtin .append, args := #[x, y], argTypes := #[T, U] }, ty, pos, aft, gd⟩ e w (fun v' w' => ∃ S' ao n c, v' = .slice ao n c ∧ Chg (· ∈ S) w w' ∧ b_ w' S' (.slice ao n c) m ∧ S'.Nodup ∧ (∀ k ∈ S', k ∈ S ∨ w.heap.size ≤ k)) := by
 obtain ⟨rfl, hl⟩ := appS hm
 obtain ⟨i, hi, hz, hsz, hb⟩ := info_parts hE.info
 have hLIM : LIM = 4294967296 := rfl
 have hLEN : LEN = 140737488355328 := rfl
 have hss : (⟨s.b.toArray⟩ : ByteArray).size = s.b.length := by simp [ByteArray.size]
 constructor
 intro a ha Q
 have hx' := ha.ev hx
 have hy' := ha.ev hy
 unfold Oper.wp
 have fin : ∀ v' w', (Builtin.append_ #[T, U] ty #[sv, Str.v s]).run P w = .ok v' w' → (execOp a.eval ⟨dst, .call { callee := .builtin .append, args := #[x, y], argTypes := #[T, U] }, ty, pos, aft, gd⟩).run P w = .ok (.value v') w' := by
  intro v' w' h
  simp [execOp, resolve, invoke, builtin, hx', hy', h]
 rcases c_X.1 ho with ⟨rfl, rfl, rfl⟩ | ⟨g, c, cur, rfl, h2, h3, h4, h5, rfl, h7⟩
 ·by_cases h0 : s.b = []
  ·have hr : (Builtin.append_ #[T, U] ty #[.slice none 0 0, Str.v s]).run P w = .ok (.slice none 0 0) w := by
    cases s with
    | mk b =>
     simp only at h0
     subst h0
     have he : (⟨#[]⟩ : ByteArray) = ByteArray.empty := rfl
     simp [Builtin.append_, run_underlying hE.sl, run_underlying hU, sizeOf, typeInfo, hi, Builtin.lenOf, Builtin.firstCells, Str.v, he]
   rw [fin _ _ hr]
   exact ⟨_, rfl, [], _, _, _, rfl, Chg.refl _ _, by rw [h0]; exact j_3 w, K_, fun k hk => by cases hk⟩
  ·have hpos : 0 < s.b.length := by cases h : s.b with | nil => exact absurd h h0 | cons a t => simp
   have hr := run_append_nil_string (P := P) (w := w) T U ty E i zz hE.sl hU hi hz ⟨s.b.toArray⟩ (by rw [hss]; exact hpos) (by rw [hss]; simp at hl; omega) (by rw [hss, hb]; simp at hl; omega)
   rw [hss] at hr
   rw [fin _ _ hr]
   have hge : s.b.length ≤ grownCap w s.b.length 0 E := grownCap_ge w s.b.length 0 E
   have hzl := hE.zlen
   refine ⟨_, rfl, [w.heap.size], _, _, _, rfl, Vw.Below.chg (Below.trans (d_Y w) (a_B w.drew _)) _, c_X.2 (.inr ⟨w.heap.size, _, _, by rw [List.nil_append], by rw [List.nil_append]; exact hge, by simp at hl ⊢; omega, alloc_blk' w.drew _ _, ?_, rfl, ?_⟩), a_0, fun k hk => .inr (by rw [List.mem_singleton.1 hk]; exact Nat.le_refl _)⟩
   ·have hzl' : zz.cells.size = 1 := hzl
    simp [size_zeroCells, hzl']; omega
   ·simp [a_f]
 ·by_cases hroom : l.length + s.b.length ≤ c
  ·have hf := Go.Lib.run_firstCells_string (P := P) w 1 ⟨s.b.toArray⟩
   rw [hss, strB] at hf
   obtain ⟨w', hst, hb', hch⟩ := f_r (P := P) (o := l.length) (a_f s.b) 0 w cur h4 (by rw [c_6]; omega) (k_M _)
   have hs1 : i.size = 1 := hsz
   have hr : (Builtin.append_ #[T, U] ty #[.slice (some ⟨g, 0, none⟩) l.length c, Str.v s]).run P w = .ok (.slice (some ⟨g, 0, none⟩) (l.length + s.b.length) c) w' := by
    simp [Builtin.append_, run_underlying hE.sl, run_underlying hU, sizeOf, typeInfo, hi, hs1, Builtin.lenOf, hss, hroom, hf, Addr.add_lit, hst]
   rw [fin _ _ hr]
   refine ⟨_, rfl, [g], _, _, _, rfl, hch.mono fun k _ hk => by rw [hk]; exact List.mem_singleton.2 rfl, c_X.2 (.inr ⟨g, c, _, by simp, by simpa using hroom, by simp; omega, hb', ?_, rfl, ?_⟩), a_0, fun k hk => .inl hk⟩
   ·simp [a_f]; omega
   ·simp only [Nat.add_zero, h7]
    rw [List.take_append_of_le_length (by simp [a_f])]
    rw [List.take_of_length_le (by simp [a_f])]
    simp [a_f]
  ·have holds : ∀ j v, (cur.take l.length)[j]? = some v → w.cell? ((⟨g, 0, none⟩ : Addr).add j) = some v := fun j v hv => by
    rw [Addr.add_lit, Nat.zero_add, h4.cell]
    rw [List.getElem?_take] at hv
    split at hv
    ·exact hv
    ·cases hv
   have hs1 : i.size = 1 := hsz
   have hr := Go.Lib.run_append_grow_string (P := P) w T U ty E i zz hE.sl hU hi hz ⟨g, 0, none⟩ l.length c (cur.take l.length) (by rw [hs1]; simp; omega) holds ⟨s.b.toArray⟩ (by rw [hss]; omega) (by rw [hss]; omega) (by rw [hss, hb]; exact growslice_fits (by omega) (by omega))
   rw [hss, strB] at hr
   rw [fin _ _ hr]
   have hge : l.length + s.b.length ≤ grownCap w (l.length + s.b.length) c E := grownCap_ge w (l.length + s.b.length) c E
   have hzl' : zz.cells.size = 1 := hE.zlen
   refine ⟨_, rfl, [w.heap.size], _, _, _, rfl, Vw.Below.chg (Below.trans (d_Y w) (a_B w.drew _)) _, c_X.2 (.inr ⟨w.heap.size, grownCap w (l.length + s.b.length) c E, _, by simp, by simpa using hge, by simp; omega, alloc_blk' w.drew _ _, ?_, rfl, ?_⟩), a_0, fun k hk => .inr (by rw [List.mem_singleton.1 hk]; exact Nat.le_refl _)⟩
   ·simp [size_zeroCells, hzl', a_f]; omega
   ·have e : (cur.take l.length) = a_f l := h7
    simp only [e]
    simp only [Array.toList_append]
    rw [List.take_append_of_le_length (by simp [a_f])]
    rw [List.take_of_length_le (by simp [a_f])]
    simp [a_f]
theorem f_e {g : Nat} {l : List UInt8} (h : Blk w g (a_f l)) (hl : Nat.ble l.length 1000 = true) : b_ w [g] (.slice (some ⟨g, 0, none⟩) l.length l.length) l :=
 c_X.2 (.inr ⟨g, l.length, _, rfl, Nat.le_refl _, Nat.le_trans (Nat.le_of_ble_eq_true hl) (by simp [LEN]), h, c_6 l, rfl, by rw [List.take_of_length_le (by rw [c_6]; exact Nat.le_refl _)]⟩)
end
end Go.Vw
