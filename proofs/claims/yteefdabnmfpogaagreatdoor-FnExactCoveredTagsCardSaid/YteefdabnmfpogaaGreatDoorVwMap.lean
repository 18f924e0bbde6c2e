import Derived.Test.YteefdabnmfpogaaGreatDoorVwGen6
import Derived.DeepKeys4
namespace Go.Vw
open Go.RowKit Dat
structure MapT {α : Type} (P : Program) (T : Nat) (kv : α → Value) (ok : α → Prop) : Prop where
 law : ∃ k e, P.underlying T = some (.map k e) ∧ WideMaps.KeyLaw P k ∧ (∀ x, ok x → ∃ l, keyOf P k (kv x) = some l) ∧ (∀ w, (zeroValue e).run P w = .ok (.bool false) w)
 inj : ∀ x y, kv x = kv y → x = y
def MapAt {α : Type} (kv : α → Value) (ok : α → Prop) (w : World) (g : Nat) (f : α → Bool) : Prop :=
 ∃ es clock, w.heap[g]? = some (.map es clock) ∧ (∀ e ∈ es.toList, ∃ x, ok x ∧ e.key = kv x ∧ e.val = .bool (f x)) ∧ (∀ x, (∀ e ∈ es.toList, e.key ≠ kv x) → f x = false) ∧
  es.toList.Pairwise (fun a b => a.key ≠ b.key)
def mput {α : Type} [DecidableEq α] (f : α → Bool) (k : α) (v : Bool) : α → Bool := fun x => if x = k then v else f x
section
variable {α : Type} {kv : α → Value} {ok : α → Prop} {w w' : World} {g : Nat} {f : α → Bool}
theorem MapAt.lt (h : MapAt kv ok w g f) : g < w.heap.size := by obtain ⟨es, c, h, _⟩ := h; exact (Array.getElem?_eq_some_iff.1 h).1
theorem MapAt.of_eq (h : MapAt kv ok w g f) (he : w'.heap[g]? = w.heap[g]?) : MapAt kv ok w' g f := by obtain ⟨es, c, h, r⟩ := h; exact ⟨es, c, he.trans h, r⟩
theorem MapAt.ext (h : MapAt kv ok w g f) (hb : Below w.heap.size w w') : MapAt kv ok w' g f := h.of_eq (hb.block g h.lt)
theorem MapAt.chg {X : Nat → Prop} (h : MapAt kv ok w g f) (hc : Chg X w w') (hx : ¬ X g) : MapAt kv ok w' g f := h.of_eq (hc.block g h.lt hx)
variable {X : Nat → Prop} {P : Program} {N : Nat} {e : Env} {dst : Option Tmp} {ty : TypeId} {p : String} {aft : Array Edge} {gd : Option (Nat × Bool)} {x y z : Operand} {T : Nat} {k : α}
theorem ef_makeMap (kv : α → Value) (ok : α → Prop) : Ef P N ⟨dst, .makeMap T none, ty, p, aft, gd⟩ e w (fun v w' => v = .map (some w.heap.size) ∧ Below w.heap.size w w' ∧ MapAt kv ok w' w.heap.size (fun _ => false)) :=
 ef_of_run fun a ha => ⟨_, w.alloc (.map #[] 0), by have h : (Instr.makeMap T none).run P w = .ok (.map (some w.heap.size)) (w.alloc (.map #[] 0)) := rfl; simp [execOp, h], rfl, alloc_below w _, ⟨#[], 0, heap_alloc_new w _, by simp, by simp, by simp⟩⟩
theorem rd_lookup (M : MapT P T kv ok) (hx : ev e x = some (.map (some g))) (hy : ev e y = some (kv k)) (hk : ok k) (hX : ¬ X g) (h : MapAt kv ok w g f) : Rd X P N ⟨dst, .lookup T x y false, ty, p, aft, gd⟩ e w (vB (f k)) := fun a ha w' hb => by
 obtain ⟨es, c, h1, h2, h3, _⟩ := h.chg hb hX
 obtain ⟨kt, et, hT, K, hl, hz⟩ := M.law
 obtain ⟨l, hl'⟩ := hl k hk
 have hks : ∀ e ∈ es.toList, ∃ l, keyOf P kt e.key = some l := fun e he => by
  obtain ⟨y, hy, hk, _⟩ := h2 e he
  rw [hk]; exact hl y hy
 rcases K.find w' hl' es.toList hks with ⟨hf, hn⟩ | ⟨j, e0, hf, hj, he⟩
 ·have := h3 k hn
  simp [execOp, ha.ev hx, ha.ev hy, Instr.lookup, run_underlying hT, MapKept.run_getObj_map h1, K.check w' _ hl', hf, hz, this, Result.andThen]
 ·obtain ⟨x0, _, hx0, hv0⟩ := h2 e0 (List.mem_of_getElem? hj)
  have : x0 = k := M.inj _ _ (hx0.symm.trans he)
  subst this
  simp [execOp, ha.ev hx, ha.ev hy, Instr.lookup, run_underlying hT, MapKept.run_getObj_map h1, K.check w' _ hl', hf, hv0, Result.andThen]
theorem ef_mapUpdate [DecidableEq α] {b : Bool} (M : MapT P T kv ok) (hx : ev e x = some (.map (some g))) (hy : ev e y = some (kv k)) (hk : ok k) (hz : ev e z = some (vB b)) (h : MapAt kv ok w g f) :
  Ef P N ⟨dst, .mapUpdate T x y z, ty, p, aft, gd⟩ e w (fun _ w' => MapAt kv ok w' g (mput f k b) ∧ Chg (· ∈ [g]) w w') := by
 have hlt := h.lt
 obtain ⟨es, c, h1, h2, h3, h4⟩ := h
 obtain ⟨kt, et, hT, K, hl, hzz⟩ := M.law
 obtain ⟨l, hl'⟩ := hl k hk
 have hks : ∀ e ∈ es.toList, ∃ l, keyOf P kt e.key = some l := fun e he => by
  obtain ⟨y, hy, hk, _⟩ := h2 e he
  rw [hk]; exact hl y hy
 have hc : ∀ o, Chg (· ∈ [g]) w { w with heap := w.heap.setIfInBounds g o } := fun o => ⟨rfl, rfl, rfl, by simp, fun k hk hx => by
   have : g ≠ k := fun h => hx (List.mem_singleton.2 h.symm)
   simp [Array.getElem?_setIfInBounds_ne this]⟩
 refine ef_of_skip fun a ha => ?_
 rcases K.find w hl' es.toList hks with ⟨hf, hn⟩ | ⟨j, e0, hf, hj, he⟩
 ·refine ⟨{ w with heap := w.heap.setIfInBounds g (.map (es.push ⟨kv k, .bool b, c⟩) (c + 1)) }, ?_, ⟨_, _, by simp [hlt]; exact ⟨rfl, rfl⟩, ?_, ?_, ?_⟩, hc _⟩
  ·simp [execOp, ha.ev hx, ha.ev hy, ha.ev hz, Instr.mapUpdate, run_underlying hT, MapKept.run_getObj_map h1, K.check w _ hl', hf, MapKept.run_setObj_map _ h1, Result.andThen]
  ·intro e he
   simp only [Array.toList_push, List.mem_append, List.mem_singleton] at he
   rcases he with he | rfl
   ·obtain ⟨y, q1, q2, q3⟩ := h2 e he
    refine ⟨y, q1, q2, ?_⟩
    have : y ≠ k := fun h => hn e he (by rw [q2, h])
    simp [mput, this, q3]
   ·exact ⟨k, hk, rfl, by simp [mput]⟩
  ·intro y hy
   have : y ≠ k := fun h => hy ⟨kv k, .bool b, c⟩ (by simp) (by rw [h])
   simp only [mput, if_neg this]
   exact h3 y fun e he => hy e (by simp [he])
  ·simp only [Array.toList_push]
   refine List.pairwise_append.2 ⟨h4, by simp, fun e he e' he' => ?_⟩
   simp only [List.mem_singleton] at he'
   subst he'
   exact hn e he
 ·have hj' : es[j]? = some e0 := by simpa using hj
  refine ⟨{ w with heap := w.heap.setIfInBounds g (.map (es.modify j (fun e' => { e' with key := kv k, val := .bool b })) c) }, ?_, ⟨_, _, by simp [hlt]; exact ⟨rfl, rfl⟩, ?_, ?_, ?_⟩, hc _⟩
  ·simp [execOp, ha.ev hx, ha.ev hy, ha.ev hz, Instr.mapUpdate, run_underlying hT, MapKept.run_getObj_map h1, K.check w _ hl', hf, hj', he, K.stays w hl', MapKept.run_setObj_map _ h1, Result.andThen]
  ·intro e hm
   obtain ⟨i, hi⟩ := List.mem_iff_getElem?.1 hm
   rw [Array.getElem?_toList, Array.getElem?_modify] at hi
   by_cases hij : j = i
   ·rw [if_pos hij, ← hij, hj'] at hi
    simp only [Option.map_some, Option.some.injEq] at hi
    exact ⟨k, hk, by rw [← hi], by rw [← hi]; simp [mput]⟩
   ·rw [if_neg hij] at hi
    have hm' : e ∈ es.toList := List.mem_of_getElem? (by rw [Array.getElem?_toList]; exact hi)
    obtain ⟨y, q1, q2, q3⟩ := h2 e hm'
    refine ⟨y, q1, q2, ?_⟩
    have : y ≠ k := fun h => by
     have hi2 : es.toList[i]? = some e := by rw [Array.getElem?_toList]; exact hi
     have hkk : e0.key = e.key := by rw [he, q2, h]
     rw [List.pairwise_iff_getElem] at h4
     obtain ⟨l1, g1⟩ := List.getElem?_eq_some_iff.1 hj
     obtain ⟨l2, g2⟩ := List.getElem?_eq_some_iff.1 hi2
     rcases Nat.lt_or_gt_of_ne hij with hlt' | hlt'
     ·exact h4 j i l1 l2 hlt' (by rw [g1, g2, hkk])
     ·exact h4 i j l2 l1 hlt' (by rw [g1, g2, hkk])
    simp [mput, this, q3]
  ·intro y hy
   have hsame : ∀ (i : Nat) (e : MapEntry), es[i]? = some e → ∃ e' ∈ (es.modify j (fun e' => { e' with key := kv k, val := .bool b })).toList, e'.key = e.key := fun i e hi => by
    by_cases hij : j = i
    ·subst hij
     rw [hj'] at hi
     simp only [Option.some.injEq] at hi
     subst hi
     refine ⟨({ e0 with key := kv k, val := .bool b } : MapEntry), List.mem_of_getElem? (i := j) ?_, ?_⟩
     ·rw [Array.getElem?_toList, Array.getElem?_modify, if_pos rfl, hj']; rfl
     ·exact he.symm
    ·refine ⟨e, List.mem_of_getElem? (i := i) ?_, rfl⟩
     rw [Array.getElem?_toList, Array.getElem?_modify, if_neg hij]; exact hi
   have hne : y ≠ k := fun h => by
    obtain ⟨e', hm, hk'⟩ := hsame j e0 hj'
    exact hy e' hm (by rw [hk', he, h])
   simp only [mput, if_neg hne]
   refine h3 y fun e hm hk' => ?_
   obtain ⟨i, hi⟩ := List.mem_iff_getElem?.1 hm
   obtain ⟨e', hm', hk''⟩ := hsame i e (by rw [← Array.getElem?_toList]; exact hi)
   exact hy e' hm' (hk''.trans hk')
  ·rw [List.pairwise_iff_getElem] at h4 ⊢
   intro i1 i2 l1 l2 hlt'
   have hkey : ∀ i (l : i < (es.modify j (fun e' => { e' with key := kv k, val := .bool b })).toList.length), ∃ l', (es.modify j (fun e' => { e' with key := kv k, val := .bool b })).toList[i].key = (es.toList[i]'l').key := fun i l => by
    have l' : i < es.toList.length := by simpa using l
    refine ⟨l', ?_⟩
    simp only [Array.getElem_toList, Array.getElem_modify]
    split
    ·rename_i hji
     subst hji
     have : es.toList[j] = e0 := by obtain ⟨_, g1⟩ := List.getElem?_eq_some_iff.1 hj; exact g1
     rw [Array.getElem_toList] at this
     rw [this, he]
    ·rfl
   obtain ⟨m1, e1⟩ := hkey i1 l1
   obtain ⟨m2, e2⟩ := hkey i2 l2
   rw [e1, e2]
   exact h4 i1 i2 m1 m2 hlt'
end
theorem nm0 {k : Nat} : k ∉ ([] : List Nat) := by simp
theorem rd_sliceT {X : Nat → Prop} {P : Program} {N : Nat} {e : Env} {w : World} {dst : Option Tmp} {ty : TypeId} {p : String} {aft : Array Edge} {gd : Option (Nat × Bool)} {x : Operand} {T : Nat} {s t : Str} {a b : Int} {lo hi : Option Operand} (hT : P.underlying T = some .string) (hx : ev e x = some s.v)
  (hlo : evo e lo 0 a) (hhi : evo e hi s.b.length b) (hs : s.b.length ≤ LEN) (hm : slcT s a b = some t) : Rd X P N ⟨dst, .slice T x lo hi none, ty, p, aft, gd⟩ e w t.v := by
 unfold slcT at hm
 obtain ⟨m, hm1, rfl⟩ := Option.map_eq_some_iff.1 hm
 obtain ⟨g1, g2, g3, rfl⟩ := slcS hm1
 have := LEN_le
 intro act ha w' _
 have hsz : (⟨s.b.toArray⟩ : ByteArray).size = s.b.length := by show s.b.toArray.size = _; simp
 have hb : ∀ code, (Instr.sliceBound (vI b) s.b.length code).run P w' = .ok b.toNat w' := fun code => run_sliceBound w' .i64 b s.b.length code (by omega) (by omega)
 have hal : ∀ code, (Instr.sliceBound (vI a) b.toNat code).run P w' = .ok a.toNat w' := fun code => run_sliceBound w' .i64 a b.toNat code g1 (by omega)
 have hbs : (Instr.sliceBounds false s.b.length s.b.length (lo.map act.eval) (hi.map act.eval) none).run P w' = .ok (a.toNat, b.toNat, s.b.length) w' := by
  cases lo with
  | none =>
   obtain rfl : a = 0 := hlo
   cases hi with
   | none =>
    obtain rfl : b = (s.b.length : Int) := hhi
    simp [Instr.sliceBounds]
   | some y => simp [Instr.sliceBounds, ha.ev hhi, hb]
  | some u =>
   cases hi with
   | none =>
    obtain rfl : b = (s.b.length : Int) := hhi
    have hal' : ∀ code, (Instr.sliceBound (vI a) s.b.length code).run P w' = .ok a.toNat w' := fun code => by simpa using hal code
    simp [Instr.sliceBounds, ha.ev hlo, hal']
   | some y => simp [Instr.sliceBounds, ha.ev hlo, ha.ev hhi, hb, hal]
 have he : (⟨s.b.toArray⟩ : ByteArray).extract a.toNat b.toNat = ⟨((s.b.take b.toNat).drop a.toNat).toArray⟩ := by
  apply ByteArray.ext
  rw [ByteArray.data_extract]
  simp [List.drop_take]
 have h1 : (Instr.sliceAt T s.v (lo.map act.eval) (hi.map act.eval) none).run P w' = .ok (.string ((⟨s.b.toArray⟩ : ByteArray).extract a.toNat b.toNat)) w' := by
  show (Instr.sliceAt T (.string ⟨s.b.toArray⟩) _ _ none).run P w' = _
  simp [Instr.sliceAt, run_underlying hT, Instr.slice, hsz, hbs]
 simp only [execOp, ha.ev hx, Option.map_none, Sem.run_bind, h1, Result.andThen_ok, he]
 rfl
theorem keyOf_two {P : Program} {k : Nat} {f1 f2 : Field} {m : Nat} (hu : P.underlying k = some (.struct #[f1, f2])) (h1 : P.underlying f1.type = some (.int .i64)) (h2 : P.underlying f2.type = some (.int .i64)) (hn : (f1.name != "_" && f2.name != "_") = true)
  (hk : P.keyType k = true) (hc : P.cellsOf k = 2) (hc1 : P.cellsOf f1.type = 1) (hc2 : P.cellsOf f2.type = 1) (ho1 : f1.offset = 0) (ho2 : f2.offset = 1) (hs : P.types.size = m + 1) {a b : Int} (ha : inI a) (hb : inI b) : ∃ l, keyOf P k (.agg #[vI a, vI b]) = some l := by
 have wa : (Lit.int .i64 a).wf = true := by
  have e1 : IntKind.i64.min = -9223372036854775808 := by decide
  have e2 : IntKind.i64.max = 9223372036854775807 := by decide
  simp only [Lit.wf, e1, e2, Bool.and_eq_true, decide_eq_true_eq]; exact ha
 have wb : (Lit.int .i64 b).wf = true := by
  have e1 : IntKind.i64.min = -9223372036854775808 := by decide
  have e2 : IntKind.i64.max = 9223372036854775807 := by decide
  simp only [Lit.wf, e1, e2, Bool.and_eq_true, decide_eq_true_eq]; exact hb
 simp only [Bool.and_eq_true] at hn
 refine ⟨.string (keyBytes [.int .i64 a, .int .i64 b]), ?_⟩
 unfold keyOf
 simp only [hu]
 rw [if_pos (by simp [hk, Value.formed, hu, hc]), hs]
 unfold Program.keyLits
 simp only [hu, Value.cells]
 rw [if_pos ⟨by rw [hc]; rfl, by simp [hn.1, hn.2]⟩]
 rw [List.mapM_cons, List.mapM_cons, List.mapM_nil]
 simp [Program.keyLits, h1, h2, hc1, hc2, ho1, ho2, wa, wb, vI]
theorem MapT_two {α : Type} {P : Program} {T k e : Nat} {f1 f2 : Field} {m : Nat} {kv : α → Value} {ok : α → Prop} {fa fb : α → Int} (hkv : ∀ x, kv x = .agg #[vI (fa x), vI (fb x)]) (hok : ∀ x, ok x → inI (fa x) ∧ inI (fb x)) (hinj : ∀ x y, fa x = fa y → fb x = fb y → x = y)
  (hT : P.underlying T = some (.map k e)) (hz : ∀ w, (zeroValue e).run P w = .ok (.bool false) w) (hl : laidOutB P = true)
  (hu : P.underlying k = some (.struct #[f1, f2])) (h1 : P.underlying f1.type = some (.int .i64)) (h2 : P.underlying f2.type = some (.int .i64)) (hn : (f1.name != "_" && f2.name != "_") = true)
  (hk : P.keyType k = true) (hk2 : P.keyTypeAt 3 k = true) (hrow : k < P.types.size) (hc : P.cellsOf k = 2) (hc1 : P.cellsOf f1.type = 1) (hc2 : P.cellsOf f2.type = 1) (ho1 : f1.offset = 0) (ho2 : f2.offset = 1) (hs : P.types.size = m + 1) : MapT P T kv ok :=
 ⟨⟨k, e, hT, deep_law_laid hl (m := 3) (by decide) hrow hk2 (by rw [hu]), fun x hx => by
   rw [hkv]
   exact keyOf_two hu h1 h2 hn hk hc hc1 hc2 ho1 ho2 hs (hok x hx).1 (hok x hx).2, hz⟩, fun x y h => by
  rw [hkv, hkv] at h
  simp only [Value.agg.injEq, Array.mk.injEq, List.cons.injEq, vI, Value.int.injEq, true_and, and_true] at h
  exact hinj x y h.1 h.2⟩
end Go.Vw
