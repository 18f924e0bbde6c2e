/- From what a row says of its arguments to data, and back: a law answers true and leaves its arguments as they were. -/
import Derived.Test.YtfdcdeahjejlmaaGreatDoorVqGl
import Derived.Carry
import Derived.Deep.DeepHandedRow
import Derived.WalkKit
import Derived.ProofKit
import Derived.OpenShut
set_option linter.unusedVariables false
namespace Go.Vw
open Go.RowKit Dat Go.ChangeShapes Go.WideShapes Go.ChangeAt
structure IsT (P : Program) (t : TypeId) (α : Type) [Dat α] (L : α → Prop) : Prop where
 rd : ∀ {H : Type} (enc : TypeId × Value → H) (W : World) (fuel : Nat) (cs : List Value) (x : DataW H × List MemPlace), DataW.trod enc P W 0 (fun _ => true) true fuel t cs = some x → (x.1.weights P t).all (· ≤ reachBytes) = true → ∃ v : α, rep W W.heap.size cs v ∧ L v
section
variable {P : Program} {t : TypeId}
theorem p_0 (ht : P.underlying t = some (.int .i64)) : IsT P t Int (fun _ => True) := ⟨fun enc W fuel cs x h _ => by
 obtain ⟨n, rfl, _, hw⟩ := DataW.trod_int ht h
 have := bounds_i64 hw
 exact ⟨n, ⟨_, rfl, rfl, by unfold inI; omega⟩, trivial⟩⟩
theorem p_1 (ht : P.underlying t = some (.int .u8)) : IsT P t UInt8 (fun _ => True) := ⟨fun enc W fuel cs x h _ => by
 obtain ⟨n, rfl, _, hw⟩ := DataW.trod_int ht h
 have hb := bounds_u8 hw
 have e : n = byteI (UInt8.ofNat n.toNat) := by
  unfold byteI
  rw [UInt8.toNat_ofNat']
  omega
 refine ⟨UInt8.ofNat n.toNat, ⟨_, rfl, ?_⟩, trivial⟩
 show Value.int .u8 n = vU (byteI (UInt8.ofNat n.toNat))
 rw [← e]⟩
theorem p_2 (ht : P.underlying t = some .bool) : IsT P t Bool (fun _ => True) := ⟨fun enc W fuel cs x h _ => by
 obtain ⟨b, rfl, _⟩ := DataW.trod_bool ht h
 exact ⟨b, ⟨_, rfl, rfl⟩, trivial⟩⟩
theorem p_3 (ht : P.underlying t = some .string) : IsT P t Str (fun s => s.b.length ≤ LEN) := ⟨fun enc W fuel cs x h hw => by
 obtain ⟨s, rfl, rfl, _⟩ := DataW.trod_string ht h
 simp only [DataW.weights, List.all_cons, List.all_nil, Bool.and_true, decide_eq_true_eq] at hw
 have hr : reachBytes = 140737488351232 := rfl
 have hL : LEN = 140737488355328 := rfl
 have hl : s.data.toList.length ≤ LEN := by omega
 exact ⟨⟨s.data.toList⟩, ⟨_, rfl, by simp [Str.v], hl⟩, hl⟩⟩
theorem l_7 {H : Type} {e : TypeId} : ∀ {l : List (DataW H)} {d : DataW H}, (DataW.weightsAll P e l).all (· ≤ reachBytes) = true → d ∈ l → (d.weights P e).all (· ≤ reachBytes) = true
 | [], _, _, h => by cases h
 | y :: l, d, hw, h => by
  unfold DataW.weightsAll at hw
  rw [List.all_append, Bool.and_eq_true] at hw
  rcases List.mem_cons.1 h with rfl | h
  ·exact hw.1
  ·exact l_7 hw.2 h
theorem j_r {H : Type} : ∀ {ts : List TypeId} {l : List (DataW H)} {i : Nat} {t : TypeId} {d : DataW H}, (DataW.weightsEach P ts l).all (· ≤ reachBytes) = true → ts[i]? = some t → l[i]? = some d → (d.weights P t).all (· ≤ reachBytes) = true
 | [], _, _, _, _, _, h, _ => by simp at h
 | _ :: _, [], _, _, _, _, _, h => by simp at h
 | t :: ts, y :: l, i, t', d, hw, h1, h2 => by
  unfold DataW.weightsEach at hw
  rw [List.all_append, Bool.and_eq_true] at hw
  cases i with
  | zero => simp at h1 h2; subst h1 h2; exact hw.1
  | succ i => simp at h1 h2; exact j_r hw.2 h1 h2
theorem cells?_spec {w : World} {a : Addr} {n : Nat} {cs : List Value} (h : w.cells? 0 a n = some cs) : cs.length = n ∧ ∀ j v, cs[j]? = some v → w.cell? (a.add j) = some v := by
 unfold World.cells? at h
 rw [if_pos (Nat.zero_le _)] at h
 refine ⟨by simpa using mapM_some_length h, fun j v hv => ?_⟩
 have hj : j < n := by
  have h1 := (List.getElem?_eq_some_iff.1 hv).1
  have h2 := mapM_some_length h
  simp at h2
  omega
 have := mapM_some_get h j j (by rw [List.getElem?_range hj])
 rw [this]; exact hv
theorem p_4 {w : World} {a : Addr} {v : Value} (h : w.cell? a = some v) : a.spot = none := by
 unfold World.cell? at h
 split at h
 ·cases hs : a.spot with
  | none => rfl
  | some x => rw [hs] at h; simp at h
 ·cases h
theorem l_8 {α : Type} (Q : Nat → α → Prop) : ∀ (len : Nat), (∀ i, i < len → ∃ v, Q i v) → ∃ l : List α, l.length = len ∧ ∀ (i : Nat) (x : α), l[i]? = some x → Q i x
 | 0, _ => ⟨[], rfl, fun i x h => by simp at h⟩
 | n + 1, h => by
  obtain ⟨l, hl, hq⟩ := l_8 Q n (fun i hi => h i (by omega))
  obtain ⟨v, hv⟩ := h n (by omega)
  refine ⟨l ++ [v], by simp [hl], fun i x hx => ?_⟩
  by_cases hi : i < l.length
  ·rw [List.getElem?_append_left hi] at hx; exact hq i x hx
  ·rw [List.getElem?_append_right (by omega)] at hx
   have h1 := (List.getElem?_eq_some_iff.1 hx).1
   simp only [List.length_cons, List.length_nil] at h1
   have h2 : i = n := by omega
   subst h2
   rw [show i - l.length = 0 by omega] at hx
   simp at hx
   exact hx ▸ hv
theorem f_n {α : Type} [Dat α] {L : α → Prop} {e : TypeId} (ht : P.underlying t = some (.slice e)) (he : IsT P e α L) (hc : P.cellsOf e = sz α) (hb : 1 ≤ P.bytesOf e) : IsT P t (List α) (fun l => l.length ≤ LEN ∧ ∀ x ∈ l, L x) := ⟨fun enc W fuel cs x h hw => by
 have hr : reachBytes = 140737488351232 := rfl
 have hL : LEN = 140737488355328 := rfl
 rcases DataW.trod_slice ht h with ⟨rfl, rfl⟩ | ⟨a, len, cap, elems, rest, n, _, rfl, rfl, _, hlc, _, hlen, hel, hsp, _⟩
 ·exact ⟨[], ⟨_, rfl, none, 0, rfl, Nat.le_refl _, Nat.zero_le _, fun _ => rfl, fun p hp => by cases hp⟩, by simp, fun x hx => by cases hx⟩
 ·obtain ⟨hrl, _⟩ := hsp rfl
  have hw' : (elems.length + rest.length) * P.bytesOf e ≤ reachBytes ∧ (DataW.weightsAll P e (elems.map (·.1))).all (· ≤ reachBytes) = true := by
   unfold DataW.weights at hw
   rw [ht] at hw
   simp only [List.all_cons, List.all_append, Bool.and_eq_true, decide_eq_true_eq, List.length_map] at hw
   exact ⟨hw.1, hw.2.1⟩
  have hcap : cap ≤ LEN := by
   have h1 : elems.length + rest.length ≤ (elems.length + rest.length) * P.bytesOf e := Nat.le_mul_of_pos_right _ hb
   omega
  have hone : ∀ i : Nat, i < len → ∃ v : α, a.spot = none ∧ a.block < W.heap.size ∧ (∃ cs, M_ W a.block (a.off + i * sz α) cs ∧ rep W W.heap.size cs v) ∧ L v := by
   intro i hi
   have h1 := hel i hi
   have hie : i < elems.length := by omega
   rw [List.getElem?_eq_getElem hie] at h1
   cases hcs : W.cells? 0 (a.add (i * P.cellsOf e)) (P.cellsOf e) with
   | none => rw [hcs] at h1; cases h1
   | some cs =>
    rw [hcs] at h1
    simp only [Option.bind_some] at h1
    obtain ⟨v, hv, hl⟩ := he.rd enc W n cs _ h1 (l_7 hw'.2 (List.mem_map_of_mem (List.getElem_mem hie)))
    obtain ⟨c1, c2⟩ := cells?_spec hcs
    have hpos : 0 < cs.length := by rw [c1, hc]; exact Dat.pos
    have hsp : a.spot = none := by
     have h0 := hel 0 (by omega)
     rw [List.getElem?_eq_getElem (show 0 < elems.length by omega)] at h0
     cases hcs0 : W.cells? 0 (a.add (0 * P.cellsOf e)) (P.cellsOf e) with
     | none => rw [hcs0] at h0; cases h0
     | some cs0 =>
      obtain ⟨d1, d2⟩ := cells?_spec hcs0
      have hpos0 : 0 < cs0.length := by rw [d1, hc]; exact Dat.pos
      have := d2 0 cs0[0] (by rw [List.getElem?_eq_getElem hpos0])
      have := p_4 this
      simpa [Addr.add] using this
    have ha : a = ⟨a.block, a.off, none⟩ := by cases a; simp only at hsp; rw [hsp]
    have hcells : M_ W a.block (a.off + i * sz α) cs := by
     intro j u hu
     have := c2 j u hu
     rw [ha, Addr.add_lit, Addr.add_lit, hc] at this
     exact this
    exact ⟨v, hsp, hcells.lt (by intro h; rw [h] at hpos; cases hpos), ⟨cs, hcells, hv⟩, hl⟩
  obtain ⟨l, hll, hq⟩ := l_8 _ len hone
  refine ⟨l, ⟨_, rfl, some a, cap, by rw [hll], by omega, by omega, fun h => (by cases h), fun p hp => ?_⟩, by omega, fun x hx => ?_⟩
  ·obtain rfl := Option.some.inj hp
   refine ⟨fun hne => ?_, fun hne => ?_, fun i x hx => (hq i x hx).2.2.1⟩
   ·cases l with
    | nil => exact absurd rfl hne
    | cons y l => exact (hq 0 y rfl).1
   ·cases l with
    | nil => exact absurd rfl hne
    | cons y l => exact (hq 0 y rfl).2.1
  ·obtain ⟨i, hi⟩ := List.getElem?_of_mem hx
   exact (hq i x hi).2.2.2⟩
def cutC : Nat → List Nat → List Value → List (List Value)
 | _, [], _ => []
 | o, n :: r, cs => (cs.drop o).take n :: cutC (o + n) r cs
def j_s : List (List Value) → List Value
 | [] => []
 | [p] => p
 | p :: q :: r => p ++ j_s (q :: r)
theorem e_s : ∀ (ns : List Nat) (o : Nat) (cs : List Value), ns ≠ [] → cs.length = o + ns.sum → j_s (cutC o ns cs) = cs.drop o
 | [], _, _, h, _ => absurd rfl h
 | [n], o, cs, _, h => by
  show (cs.drop o).take n = _
  rw [List.take_of_length_le]
  simp at h ⊢; omega
 | n :: m :: r, o, cs, _, h => by
  show (cs.drop o).take n ++ j_s (cutC (o + n) (m :: r) cs) = _
  rw [e_s (m :: r) (o + n) cs (by simp) (by simp at h ⊢; omega), ← List.drop_drop, List.take_append_drop]
theorem f_o {H : Type} {enc : TypeId × Value → H} {W : World} {fuel : Nat} {cs : List Value} {x : DataW H × List MemPlace} {fs : Array Field} (ht : P.underlying t = some (.struct fs)) (h : DataW.trod enc P W 0 (fun _ => true) true fuel t cs = some x) (hw : (x.1.weights P t).all (· ≤ reachBytes) = true) :
  cs.length = P.cellsOf t ∧ ∀ (i : Nat) (f : Field), fs[i]? = some f → ∀ (α : Type) (_ : Dat α) (L : α → Prop), IsT P f.type α L → ∃ v : α, rep W W.heap.size ((cs.drop f.offset).take (P.cellsOf f.type)) v ∧ L v := by
 obtain ⟨xs, n, rfl, rfl, hl, hxl, hf⟩ := DataW.trod_struct ht h
 refine ⟨hl, fun i f hi α _ L hα => ?_⟩
 have h1 := hf i f hi
 have hlt := (Array.getElem?_eq_some_iff.1 hi).1
 rw [List.getElem?_eq_getElem (by omega)] at h1
 refine hα.rd enc W n _ _ h1 ?_
 unfold DataW.weights at hw
 rw [ht] at hw
 refine j_r (i := i) hw ?_ (by rw [List.getElem?_map, List.getElem?_eq_getElem (by omega)]; rfl)
 rw [List.getElem?_map, Array.getElem?_toList, hi]; rfl
structure OkW (P : Program) (W : World) (base : Nat) (t : TypeId) (v : Value) : Prop where
 h : Value.okWide P W .any base t v
structure OkWs (P : Program) (W : World) (base : Nat) (ts : Array TypeId) (vs : Array Value) : Prop where
 h : ∀ (j : Nat) t v, ts[j]? = some t → vs[j]? = some v → Value.okWide P W .any base t v
theorem OkWs.at {W : World} {base : Nat} {ts : Array TypeId} {vs : Array Value} (h : OkWs P W base ts vs) (j : Nat) (t : TypeId) (v : Value) (h1 : ts[j]? = some t) (h2 : vs[j]? = some v) : OkW P W base t v := ⟨h.h j t v h1 h2⟩
theorem p_5 {W : World} {base : Nat} {t : TypeId} {v : Value} {fs : Array Field} (ht : P.underlying t = some (.struct fs)) (h : OkW P W base t v) : ∃ cs, v = .agg cs ∧ cs.size = P.cellsOf t := okWide_struct ht h.h
theorem l_9 {H : Type} {enc : TypeId × Value → H} (hl : laidOutB P = true) {W W' : World} (hb : Below W.heap.size W W') : ∀ (ts : List TypeId) (vs : List Value) (ds : List (DataW H)) (ps : List MemPlace), (∀ t ∈ ts, P.readableRec t = true ∧ t < P.types.size) →
  DataW.TrodAll enc P W 0 (fun _ => true) true ts vs ds ps → (∀ x ∈ ps, x.block < W.heap.size) → ∀ (sp : Nat → Bool), (∀ b, b < W.heap.size → sp b = true) → DataW.TrodAll enc P W' 0 sp true ts vs ds ps
 | [], [], [], _, _, h, _, _, _ => h
 | t :: ts, v :: vs, d :: ds, ps, hr, h, hlt, sp, hsp => by
  obtain ⟨p, q, h1, h2, rfl⟩ := h
  refine ⟨p, q, ?_, l_9 hl hb ts vs ds q (fun t ht => hr t (List.mem_cons_of_mem _ ht)) h2 (fun x hx => hlt x (List.mem_append_right _ hx)) sp hsp, rfl⟩
  have hlp : ∀ x ∈ p, x.block < W.heap.size := fun x hx => hlt x (List.mem_append_left _ hx)
  exact WideElems.Trod_stays hl (hr t List.mem_cons_self).1 (hr t List.mem_cons_self).2 h1 (fun x hx => hb.same (hlp x hx)) (fun x hx => hsp _ (hlp x hx))
 | [], _ :: _, _, _, _, h, _, _, _ => by cases h
 | [], [], _ :: _, _, _, h, _, _, _ => by cases h
 | _ :: _, [], _, _, _, h, _, _, _ => by cases h
 | _ :: _, _ :: _, [], _, _, h, _, _, _ => by cases h
theorem p_6 {H : Type} {enc : TypeId × Value → H} {f : Func} {s : ChangeSpec} {apart fresh handsOn again : Bool} {W W' : World} {args : Array Value} {ds gs : List (DataW H)} {before : List MemPlace} {tb : TypeId} (hl : laidOutB P = true) (hread : ∀ t ∈ f.params.toList, P.readableRec t = true ∧ t < P.types.size)
  (hb : Below W.heap.size W W') (hW : DataW.Whole enc P f.params.toList s.vars apart W args.toList ds gs before) (hres : f.resultTypes = #[tb]) (htb : P.underlying tb = some .bool) (hvars : s.vars = []) (hfn : s.fn H (ds ++ gs) = { results := [.lit (.bool true)], args := ds }) :
  s.post enc P f apart fresh handsOn again W args (.bool true) W' := by
 have hlt : ∀ x ∈ before, x.block < W.heap.size := fun p hp => hW.lt p hp
 have hW' := hW
 obtain ⟨p, q, hA, hV, rfl, hz, hn⟩ := hW
 rw [hvars] at hV
 obtain ⟨rfl, rfl⟩ := trodVars_none hV
 have hA' := fun sp hsp => l_9 hl hb _ _ _ _ hread hA (fun x hx => hlt x (by simpa using hx)) sp hsp
 have hr : ∀ (b : Nat) (sp : Nat → Bool) (hd : Bool), DataW.TrodAll enc P W' b sp hd f.resultTypes.toList ((Value.bool true).resultList f.resultTypes.size) (s.fn H (ds ++ [])).results [] := fun b sp hd => by
  rw [hfn, hres]; exact trodAll_cons_mk (shut_bool htb _) trodAll_mk0
 have hvs : ∀ sp : Nat → Bool, DataW.TrodVars enc P W' sp s.vars (s.fn H (ds ++ [])).vars [] := fun sp => by rw [hfn, hvars]; rfl
 refine ⟨ds, [], p ++ [], [], p, [], hW', hr _ _ _, by rw [hfn]; exact hA' _ (fun b hb => by simpa using hb), hvs _, hb.frame _, fun _ => ⟨?_, ([.lit (.bool true)] : List (DataW H)) ++ ds, [], ([] ++ p) ++ [], ⟨[] ++ p, [], ?_, ?_, rfl, ?_, ?_⟩, ?_⟩⟩
 ·exact ok_one hres rfl (okWide_bool_mk htb _)
 ·have h1 := hr 0 (fun _ => true) true
  rw [hfn] at h1
  exact trodAll_append (hA' _ (fun _ _ => rfl)) h1
 ·rw [hvars]; rfl
 ·intro b off hp
  have hp' : MemPlace.cell b off ∈ p ++ [] := by simpa using hp
  have := hlt _ hp'
  rw [hb.frozen (p := ⟨b, off, none⟩) this]
  exact hz b off hp'
 ·intro ha; have := hn ha; simpa using this
 ·intro x hx _; simpa using hx
end
end Go.Vw
