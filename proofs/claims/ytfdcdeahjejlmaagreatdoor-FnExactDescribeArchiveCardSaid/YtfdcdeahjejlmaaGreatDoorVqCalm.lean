import Derived.Test.YtfdcdeahjejlmaaGreatDoorVqBase
set_option linter.unusedVariables false
namespace Go.Vw
open Go.RowKit
variable {X : Nat → Prop}
def F3 : Exit → Act → World → Prop := fun _ _ _ => False
theorem o_3 {P : Program} {o : Oper} {a : Act} {w : World} {K : Act → World → Prop} {Q : Exit → Act → World → Prop} (h : o.wp P a w K F3) : o.wp P a w K Q := by
 unfold Oper.wp at *
 generalize (execOp a.eval o).run P w = r at *
 cases r with
 | ok n w' =>
  cases n <;> simp only [Oper.upon] at h ⊢ <;>
   first
    | exact h
    | exact Calls.mono h (fun e w'' he => by
      cases e with
      | returned v => exact he
      | panicked c => exact (show False from he).elim
      | outgrown => obtain ⟨_, _, hq⟩ := he; exact (show False from hq).elim)
 | halt x w' => cases x <;> simp only [Oper.upon] at h ⊢ <;> exact (show False from h).elim
def opW (P : Program) (ops : Array Oper) (i : Nat) (K : Act → World → Prop) (a : Act) (w : World) : Prop :=
 match ops[i]? with
 | none => K a w
 | some o => if Region.wanted o (yielded ops a.tmps) then o.wp P a w K F3 else K (a.put o.dst undef) w
section
variable {P : Program} {ops : Array Oper} {T : Nat}
theorem o_4 {Q : Exit → Act → World → Prop} {i : Nat} {K K' : Act → World → Prop} {a : Act} {w : World} (hk : ∀ a w, K a w → K' a w) (h : opW P ops i K a w) : wpOp P ops Q i K' a w := by
 unfold opW at h
 unfold wpOp
 split
 ·rename_i ho; simp only [ho] at h; exact hk _ _ h
 ·rename_i o ho
  simp only [ho] at h
  split
  ·rename_i hw; simp only [hw, if_true] at h; exact .inl (o_3 (Oper.wp_mono hk h))
  ·rename_i hw; simp only [hw] at h; exact hk _ _ h
theorem f_g {i : Nat} {K K' : Act → World → Prop} {a : Act} {w : World} (hk : ∀ a w, K a w → K' a w) (h : opW P ops i K a w) : opW P ops i K' a w := by
 unfold opW at *
 split
 ·rename_i ho; simp only [ho] at h; exact hk _ _ h
 ·rename_i o ho
  simp only [ho] at h
  split
  ·rename_i hw; simp only [hw, if_true] at h; exact Oper.wp_mono hk h
  ·rename_i hw; simp only [hw] at h; exact hk _ _ h
def YX (X : Nat → Prop) (P : Program) (ops : Array Oper) (o : Oper) (v : Value) (a : Act) (w : World) : Prop :=
 (Region.wanted o (yielded ops a.tmps) = true ∧ ∀ w', Chg X w w' → (execOp a.eval o).run P w' = .ok (.value v) w') ∨
 (Region.wanted o (yielded ops a.tmps) = false ∧ v = undef)
theorem YX.of_same {o : Oper} {v : Value} {a a' : Act} {w : World} (hy : YX X P ops o v a w) (he : execOp a'.eval o = execOp a.eval o)
  (hw : Region.wanted o (yielded ops a'.tmps) = Region.wanted o (yielded ops a.tmps)) : YX X P ops o v a' w := by
 unfold YX at *
 rw [he, hw]
 exact hy
theorem YX.ext {o : Oper} {v : Value} {a : Act} {w w' : World} (hy : YX X P ops o v a w) (hb : Chg X w w') : YX X P ops o v a w' := by
 rcases hy with ⟨h1, h2⟩ | h
 ·exact .inl ⟨h1, fun w'' hb' => h2 w'' (hb.trans hb')⟩
 ·exact .inr h
theorem YX.opW {i : Nat} {o : Oper} {v : Value} {a : Act} {w : World} {K : Act → World → Prop} (hi : ops[i]? = some o) (hy : YX X P ops o v a w) (h : K (a.put o.dst v) w) : opW P ops i K a w := by
 unfold Vw.opW
 simp only [hi]
 rcases hy with ⟨hw, hv⟩ | ⟨hw, rfl⟩
 ·simp only [hw, if_true, Oper.wp, hv w (Chg.refl _ _), Oper.upon]; exact h
 ·simp only [hw, Bool.false_eq_true, if_false]; exact h
theorem o_5 {j : Nat} {oi oj : Oper} {v : Value} (hj : ops[j]? = some oj) (hap : oi.apart ops oj = true)
  (hsi : ∀ cs b, oi.op ≠ .select cs b) (hsj : ∀ cs b, oj.op ≠ .select cs b) {K : Act → World → Prop} {a : Act} {w : World}
  (hy : YX X P ops oi v a w) (h : opW P ops j (fun a' w' => Chg X w w' ∧ K a' w') (a.put oi.dst v) w) :
  opW P ops j (fun a' w' => Chg X w w' ∧ YX X P ops oi v a' w' ∧ K (a'.put oi.dst v) w') a w := by
 obtain ⟨h1, h2, h3⟩ := Oper.apart_spec hap
 have keep : ∀ (a : Act) (w' : World), YX X P ops oi v a w → Chg X w w' → ∀ u, YX X P ops oi v (a.put oj.dst u) w' := fun a w' hy hb u =>
  (hy.of_same (execOp_put oi hsi a oj.dst u h3) (wanted_put oi a oj.dst u h3)).ext hb
 have keepD : ∀ d, YX X P ops oi v { a with defers := d :: a.defers } w := fun d => hy.of_same rfl rfl
 unfold opW at *
 simp only [hj] at *
 rw [wanted_put oj a oi.dst v h1] at h
 split
 ·rename_i hw
  simp only [hw, if_true] at h
  unfold Oper.wp at *
  rw [execOp_put oj hsj a oi.dst v h1] at h
  generalize (execOp a.eval oj).run P w = r at *
  cases r with
  | ok n w' =>
   cases n <;> simp only [Oper.upon] at h ⊢
   case value u => exact ⟨h.1, keep a _ hy h.1 u, by rw [← Act.put_comm a v u h2]; exact h.2⟩
   case skip => exact ⟨h.1, keep a _ hy h.1 _, by rw [← Act.put_comm a v undef h2]; exact h.2⟩
   case defer d =>
    refine ⟨h.1, keep _ _ (keepD d) h.1 _, ?_⟩
    rw [← Act.put_comm _ v undef h2, ← Act.put_defers]
    exact h.2
   case enter f args =>
    refine Calls.mono h fun e w'' he => ?_
    cases e with
    | returned u => exact ⟨he.1, keep a _ hy he.1 u, by rw [← Act.put_comm a v u h2]; exact he.2⟩
    | panicked c => exact he
    | outgrown => exact he
   case row row args => exact Rows.mono h fun u w'' he => ⟨he.1, keep a _ hy he.1 u, by rw [← Act.put_comm a v u h2]; exact he.2⟩
  | halt x w' => cases x <;> simp only [Oper.upon] at h ⊢ <;> exact h
 ·rename_i hw
  simp only [hw] at h
  exact ⟨h.1, keep a _ hy h.1 _, by rw [← Act.put_comm a v undef h2]; exact h.2⟩
def wpX (X : Nat → Prop) (P : Program) (ops : Array Oper) (T : Nat) (K : Act → World → Prop) : Nat → Array Bool → Act → World → Prop
 | 0, L, a, w => Region.ready .any ops L = [] ∧ K a w
 | n + 1, L, a, w =>
  (Region.ready .any ops L = [] → K a w) ∧
  ∀ i ∈ Region.ready .any ops L, opW P ops i (fun a' w' => (T.testBit i = false → Chg X w w') ∧ wpX X P ops T K n (L.setIfInBounds i true) a' w') a w
theorem k_O {K : Act → World → Prop} {Q : Exit → Act → World → Prop} (hk : ∀ a w, K a w → Q .normal a w) : ∀ (n : Nat) (L : Array Bool) (a : Act) (w : World), wpX X P ops T K n L a w → wpAny P .any ops Q n L a w
 | 0, _, _, _, h => ⟨h.1, hk _ _ h.2⟩
 | n + 1, _, _, _, h => ⟨fun h0 => hk _ _ (h.1 h0), fun i hi => o_4 (fun a' w' hx => k_O hk n _ a' w' hx.2) (h.2 i hi)⟩
def h_8 (acc : List Nat) (o : Oper) : Nat :=
 o.after.toList.foldl (fun s e => if Region.binds .any e then s ||| (2 ^ e.on ||| acc.getD e.on 0) else s) 0
def b_z : List Nat → List Oper → List Nat
 | acc, [] => acc
 | acc, o :: l => b_z (acc ++ [h_8 acc o]) l
theorem k_P (acc : List Nat) (i : Nat) : ∀ (l : List Edge) (s : Nat),
  (l.foldl (fun s e => if Region.binds .any e then s ||| (2 ^ e.on ||| acc.getD e.on 0) else s) s).testBit i = true →
  s.testBit i = true ∨ ∃ e ∈ l, Region.binds .any e = true ∧ (e.on = i ∨ (acc.getD e.on 0).testBit i = true)
 | [], _, h => .inl h
 | e :: l, s, h => by
  simp only [List.foldl_cons] at h
  rcases k_P acc i l _ h with h1 | ⟨e', he', h1⟩
  ·by_cases hb : Region.binds .any e = true
   ·rw [if_pos hb, Nat.testBit_or, Bool.or_eq_true, Nat.testBit_or, Bool.or_eq_true] at h1
    rcases h1 with h1 | h1 | h1
    ·exact .inl h1
    ·exact .inr ⟨e, List.mem_cons_self, hb, .inl (by simpa [Nat.testBit_two_pow] using h1)⟩
    ·exact .inr ⟨e, List.mem_cons_self, hb, .inr h1⟩
   ·rw [if_neg hb] at h1
    exact .inl h1
  ·exact .inr ⟨e', List.mem_cons_of_mem _ he', h1⟩
theorem i_L (l r : List Nat) (k : Nat) (h : k < l.length) : (l ++ r).getD k 0 = l.getD k 0 := by
 simp [List.getD, List.getElem?_append_left h]
theorem k_Q : ∀ (l : List Oper) (acc : List Nat) (pre : List Oper), acc.length = pre.length →
  (∀ j o i, pre[j]? = some o → (acc.getD j 0).testBit i = true → ∃ e ∈ o.after.toList, Region.binds .any e = true ∧ (e.on = i ∨ (e.on < j ∧ (acc.getD e.on 0).testBit i = true))) →
  ∀ j o i, (pre ++ l)[j]? = some o → ((b_z acc l).getD j 0).testBit i = true → ∃ e ∈ o.after.toList, Region.binds .any e = true ∧ (e.on = i ∨ (e.on < j ∧ ((b_z acc l).getD e.on 0).testBit i = true))
 | [], acc, pre, _, h => by simpa [b_z] using h
 | o :: l, acc, pre, hl, h => by
  have := k_Q l (acc ++ [h_8 acc o]) (pre ++ [o]) (by simp [hl]) (fun j oj i hj hb => by
   by_cases hlt : j < pre.length
   ·rw [List.getElem?_append_left hlt] at hj
    rw [i_L _ _ _ (by omega)] at hb
    obtain ⟨e, he, hbi, h1⟩ := h j oj i hj hb
    refine ⟨e, he, hbi, h1.imp id fun ⟨h2, h3⟩ => ⟨h2, ?_⟩⟩
    rw [i_L _ _ _ (by omega)]
    exact h3
   ·have hje : j = pre.length := by
     rcases Nat.lt_or_ge j (pre ++ [o]).length with h' | h'
     ·simp at h'; omega
     ·rw [List.getElem?_eq_none h'] at hj; cases hj
    subst hje
    simp only [List.getElem?_concat_length, Option.some.injEq] at hj
    subst hj
    have hm : (acc ++ [h_8 acc o]).getD pre.length 0 = h_8 acc o := by
     rw [← hl]; simp [List.getD]
    rw [hm] at hb
    rcases k_P acc i _ _ hb with h0 | ⟨e, he, hbi, h1⟩
    ·simp at h0
    ·refine ⟨e, he, hbi, ?_⟩
     rcases h1 with h1 | h1
     ·exact .inl h1
     ·have hlt' : e.on < acc.length := by
       rcases Nat.lt_or_ge e.on acc.length with h' | h'
       ·exact h'
       ·simp [List.getD, List.getElem?_eq_none h'] at h1
      exact .inr ⟨by omega, by rw [i_L _ _ _ hlt']; exact h1⟩)
  simpa [b_z] using this
def c_A (ops : Array Oper) (L : Array Bool) : Prop := ∀ j o, ops[j]? = some o → L.getD j false = true → ∀ e ∈ o.after, Region.binds .any e = true → L.getD e.on false = true
theorem c_A.set {L : Array Bool} (h : c_A ops L) {i : Nat} (hi : i ∈ Region.ready .any ops L) : c_A ops (L.setIfInBounds i true) := by
 obtain ⟨_, oi, hoi, hall⟩ := mem_ready.1 hi
 intro j o hj hl e he hb
 by_cases hij : i = j
 ·subst hij
  obtain rfl : oi = o := Option.some.inj (hoi.symm.trans hj)
  exact getD_set_true (hall e he hb)
 ·rw [getD_set_ne false hij] at hl
  exact getD_set_true (h j o hj hl e he hb)
theorem k_R {L : Array Bool} (h : c_A ops L) (i : Nat) : ∀ (n j : Nat) (o : Oper), j < n → ops[j]? = some o → (∀ e ∈ o.after, Region.binds .any e = true → L.getD e.on false = true) →
  ((b_z [] ops.toList).getD j 0).testBit i = true → L.getD i false = true
 | 0, _, _, hn, _, _, _ => absurd hn (Nat.not_lt_zero _)
 | n + 1, j, o, hn, hj, hall, hb => by
  obtain ⟨e, he, hbi, h1⟩ := k_Q ops.toList [] [] rfl (fun _ _ _ h => by simp at h) j o i (by simpa using hj) hb
  have hL := hall e (by simpa using he) hbi
  rcases h1 with h1 | ⟨h2, h3⟩
  ·rw [← h1]; exact hL
  ·obtain ⟨oe, hoe⟩ : ∃ oe, ops[e.on]? = some oe := by
    have : e.on < ops.size := Nat.lt_trans h2 (Array.getElem?_eq_some_iff.1 hj).1
    exact ⟨ops[e.on], by simp [this]⟩
   exact k_R h i n e.on oe (by omega) hoe (h _ _ hoe hL) h3
theorem o_6 {L : Array Bool} (h : c_A ops L) {i j : Nat} (hj : j ∈ Region.ready .any ops L) (hi : L.getD i true = false) : ((b_z [] ops.toList).getD j 0).testBit i = false := by
 obtain ⟨_, o, ho, hall⟩ := mem_ready.1 hj
 cases hb : ((b_z [] ops.toList).getD j 0).testBit i with
 | false => rfl
 | true =>
  have := k_R h i (j + 1) j o (by omega) ho hall hb
  rcases Nat.lt_or_ge i L.size with h' | h'
  ·simp [h'] at this hi; rw [hi] at this; cases this
  ·simp [Array.getElem?_eq_none h'] at this
theorem o_7 {K : Act → World → Prop} {i : Nat} {oi : Oper} {v : Value} (hi : ops[i]? = some oi) (hsel : ∀ (j : Nat) (o : Oper) cs b, ops[j]? = some o → o.op ≠ .select cs b) :
  ∀ (n : Nat) (L : Array Bool) (a : Act) (w : World), c_A ops L →
   (∀ j oj, ops[j]? = some oj → j ≠ i → L.getD j true = false → ((b_z [] ops.toList).getD j 0).testBit i = false → oi.apart ops oj = true ∧ T.testBit j = false) →
   i ∈ Region.ready .any ops L → YX X P ops oi v a w → wpX X P ops T K n (L.setIfInBounds i true) (a.put oi.dst v) w → wpX X P ops T K (n + 1) L a w := by
 intro n
 induction n with
 | zero =>
  intro L a w _ _ hr hy H
  refine ⟨fun h => (by rw [h] at hr; cases hr), fun j hj => ?_⟩
  by_cases hji : j = i
  ·subst hji; exact hy.opW hi ⟨fun _ => Chg.refl _ _, H⟩
  ·have := ready_mono hj hji
   rw [H.1] at this
   cases this
 | succ n ih =>
  intro L a w hd hfree hr hy H
  refine ⟨fun h => (by rw [h] at hr; cases hr), fun j hj => ?_⟩
  by_cases hji : j = i
  ·subst hji; exact hy.opW hi ⟨fun _ => Chg.refl _ _, H⟩
  ·have h1 := H.2 j (ready_mono hj hji)
   obtain ⟨hjun, oj, hoj, _⟩ := mem_ready.1 hj
   have hnw := o_6 hd hj (mem_ready.1 hr).1
   obtain ⟨hap, hT⟩ := hfree j oj hoj hji hjun hnw
   have h1' := f_g (K' := fun a' w' => Chg X w w' ∧ wpX X P ops T K n ((L.setIfInBounds i true).setIfInBounds j true) a' w') (fun a' w' hx => ⟨hx.1 hT, hx.2⟩) h1
   have h2 := o_5 hoj hap (fun cs b => hsel i oi cs b hi) (fun cs b => hsel j oj cs b hoj) hy h1'
   have hfree' : ∀ k ok, ops[k]? = some ok → k ≠ i → (L.setIfInBounds j true).getD k true = false → ((b_z [] ops.toList).getD k 0).testBit i = false → oi.apart ops ok = true ∧ T.testBit k = false := fun k ok hk hki hun hno => by
    refine hfree k ok hk hki ?_ hno
    by_cases hjk : j = k
    ·subst hjk; exact hjun
    ·rw [getD_set_ne true hjk] at hun; exact hun
   refine f_g (fun a' w' h3 => ⟨fun _ => h3.1, ih (L.setIfInBounds j true) a' w' (hd.set hj) hfree' (ready_mono hr (Ne.symm hji)) h3.2.1 ?_⟩) h2
   rw [Array.setIfInBounds_comm _ _ hji]
   exact h3.2.2
inductive a_w where
 | done
 | rd (i : Nat) (p : a_w)
 | ef (i : Nat) (p : a_w)
 | br (i : Nat) (p : a_w) (j : Nat) (q : a_w)
def a_w.len : a_w → Nat
 | done => 0
 | rd _ p => p.len + 1
 | ef _ p => p.len + 1
 | br _ p _ _ => p.len + 1
def i_M (ops : Array Oper) (anc : List Nat) (T : Nat) (L : Array Bool) (i : Nat) : Bool :=
 match ops[i]? with
 | none => false
 | some oi => (List.range ops.size).all fun j => j == i || L.getD j true || (anc.getD j 0).testBit i || match ops[j]? with
   | some oj => oi.apart ops oj && !T.testBit j
   | none => true
def a_w.ok (ops : Array Oper) (anc : List Nat) (T : Nat) : a_w → Array Bool → Bool
 | done, L => (Region.ready .any ops L).isEmpty
 | rd i p, L => (Region.ready .any ops L).contains i && i_M ops anc T L i && p.ok ops anc T (L.setIfInBounds i true)
 | ef i p, L => (Region.ready .any ops L == [i]) && p.ok ops anc T (L.setIfInBounds i true)
 | br i p j q, L => (Region.ready .any ops L == [i, j]) && p.len == q.len && p.ok ops anc T (L.setIfInBounds i true) && q.ok ops anc T (L.setIfInBounds j true)
def a_w.run (X : Nat → Prop) (P : Program) (ops : Array Oper) (T : Nat) (K : Act → World → Prop) : a_w → Act → World → Prop
 | done, a, w => K a w
 | rd i p, a, w => ∃ o v, ops[i]? = some o ∧ YX X P ops o v a w ∧ p.run X P ops T K (a.put o.dst v) w
 | ef i p, a, w => opW P ops i (fun a' w' => (T.testBit i = false → Chg X w w') ∧ p.run X P ops T K a' w') a w
 | br i p j q, a, w => opW P ops i (fun a' w' => (T.testBit i = false → Chg X w w') ∧ p.run X P ops T K a' w') a w ∧
   opW P ops j (fun a' w' => (T.testBit j = false → Chg X w w') ∧ q.run X P ops T K a' w') a w
theorem o_8 {L : Array Bool} {i : Nat} {oi : Oper} (hi : ops[i]? = some oi) (h : i_M ops (b_z [] ops.toList) T L i = true) : ∀ j oj, ops[j]? = some oj → j ≠ i → L.getD j true = false → ((b_z [] ops.toList).getD j 0).testBit i = false → oi.apart ops oj = true ∧ T.testBit j = false := by
 intro j oj hj hne hun hno
 simp only [i_M, hi, List.all_eq_true, List.mem_range] at h
 have h1 := h j (Array.getElem?_eq_some_iff.1 hj).1
 simp only [hj, Bool.or_eq_true, beq_iff_eq, hne, false_or, hun, Bool.false_eq_true, hno, Bool.and_eq_true, Bool.not_eq_true'] at h1
 exact h1
theorem f_h {K : Act → World → Prop} (hsel : Region.noSelect ops = true) : ∀ (p : a_w) (L : Array Bool) (a : Act) (w : World), c_A ops L → p.ok ops (b_z [] ops.toList) T L = true → p.run X P ops T K a w → wpX X P ops T K p.len L a w
 | .done, L, a, w, _, hok, h => ⟨by simpa [a_w.ok] using hok, h⟩
 | .rd i p, L, a, w, hd, hok, h => by
  simp only [a_w.ok, Bool.and_eq_true] at hok
  obtain ⟨⟨hr, hf⟩, hok'⟩ := hok
  obtain ⟨o, v, ho, hy, h'⟩ := h
  have hr' : i ∈ Region.ready .any ops L := by simpa using hr
  exact o_7 ho (Region.noSelect_spec hsel) p.len L a w hd (o_8 ho hf) hr' hy (f_h hsel p _ _ _ (hd.set hr') hok' h')
 | .ef i p, L, a, w, hd, hok, h => by
  simp only [a_w.ok, Bool.and_eq_true, beq_iff_eq] at hok
  obtain ⟨hr, hok'⟩ := hok
  refine ⟨fun h0 => (by rw [hr] at h0; cases h0), fun j hj => ?_⟩
  have hj' := hj
  rw [hr] at hj
  obtain rfl : j = i := by simpa using hj
  exact f_g (fun a' w' hx => ⟨hx.1, f_h hsel p _ a' w' (hd.set hj') hok' hx.2⟩) h
 | .br i p k q, L, a, w, hd, hok, h => by
  simp only [a_w.ok, Bool.and_eq_true, beq_iff_eq] at hok
  obtain ⟨⟨⟨hr, hlen⟩, hp⟩, hq⟩ := hok
  refine ⟨fun h0 => (by rw [hr] at h0; cases h0), fun j hj => ?_⟩
  have hj' := hj
  rw [hr] at hj
  simp only [List.mem_cons, List.not_mem_nil, or_false] at hj
  rcases hj with rfl | rfl
  ·exact f_g (fun a' w' hx => ⟨hx.1, f_h hsel p _ a' w' (hd.set hj') hp hx.2⟩) h.1
  ·exact f_g (fun a' w' hx => ⟨hx.1, by have := f_h hsel q _ a' w' (hd.set hj') hq hx.2; rw [← hlen] at this; exact this⟩) h.2
def a_w.okAll (ops : Array Oper) (T : Nat) (p : a_w) : Bool :=
 Region.noSelect ops && p.len == ops.size && p.ok ops (b_z [] ops.toList) T (Array.replicate ops.size false)
theorem c_A.start (ops : Array Oper) (n : Nat) : c_A ops (Array.replicate n false) := by
 intro j o _ hl
 rcases Nat.lt_or_ge j n with h | h
 ·simp [h] at hl
 ·simp [Nat.not_lt.2 h] at hl
structure PR (X : Nat → Prop) (P : Program) (N : Nat) (ops : Array Oper) (T : Nat) (K : Act → World → Prop) (p : a_w) (e : Env) (w : World) : Prop where
 run : ∀ a, Sat N e a → p.run X P ops T K a w
end
section
variable {P : Program} {N : Nat} {ops : Array Oper} {T : Nat} {K : Act → World → Prop} {Q : Exit → Act → World → Prop} {e : Env} {w : World} {o : Oper} {p : a_w}
theorem i_N {id : Nat} {l : List Oper} (T : Nat) (p : a_w) (hm : P.follows .mixedOrders = true) (hok : p.okAll l.toArray T = true) (h : ∀ w', Below w.heap.size w w' → w'.heap = w.heap → PR X P N l.toArray T K p e w') :
  WC P N (.region id l.toArray true) K Q e w := fun a ha => by
 simp only [a_w.okAll, Bool.and_eq_true, beq_iff_eq] at hok
 obtain ⟨⟨hsel, hlen⟩, hp⟩ := hok
 have := f_h (P := P) hsel p _ a { w with drawn := w.drawn + 1 } (c_A.start _ _) hp ((h { w with drawn := w.drawn + 1 } ⟨rfl, rfl, rfl, Nat.le_refl _, fun _ _ => rfl⟩ rfl).run a ha)
 rw [hlen] at this
 exact wp_region_any hm (k_O (Q := Exit.then K Q) (fun _ _ h => h) _ _ _ _ this)
theorem i_O (h : AtK N K e w) : PR X P N ops T K .done e w := ⟨fun a ha => h a ha⟩
theorem PR_rd {i : Nat} {v : Value} (ho : ops[i]? = some o) (hg : o.guard = none) (hf : a_Y N o = true) (h : Rd X P N o e w v) (k : PR X P N ops T K p (out o v e) w) : PR X P N ops T K (.rd i p) e w := ⟨fun a ha =>
 ⟨o, v, ho, .inl ⟨by simp [Region.wanted, hg], h a ha⟩, k.run _ (ha.out hf v)⟩⟩
theorem o_9 {i j : Nat} {v : Value} {want : Bool} {d : Nat} (ho : ops[i]? = some o) (hg : o.guard = some (j, want)) (hj : (ops[j]?).bind (·.dst) = some d) (hb : q_ e d = some (.bool want)) (hf : a_Y N o = true)
  (h : Rd X P N o e w v) (k : PR X P N ops T K p (out o v e) w) : PR X P N ops T K (.rd i p) e w := by
 constructor
 intro a ha
 have hy' : yielded ops a.tmps j = some want := by
  have := ha.at_ d _ hb
  simp [yielded, hj, this]
 exact ⟨o, v, ho, .inl ⟨by simp [Region.wanted, hg, hy'], h a ha⟩, k.run _ (ha.out hf v)⟩
theorem o_a {i j : Nat} {want : Bool} {d : Nat} (ho : ops[i]? = some o) (hg : o.guard = some (j, want)) (hj : (ops[j]?).bind (·.dst) = some d) (hb : q_ e d = some (.bool (!want))) (hf : a_Y N o = true)
  (k : PR X P N ops T K p (out o undef e) w) : PR X P N ops T K (.rd i p) e w := by
 constructor
 intro a ha
 have hy' : yielded ops a.tmps j = some (!want) := by
  have := ha.at_ d _ hb
  simp [yielded, hj, this]
 exact ⟨o, undef, ho, .inr ⟨(by cases want <;> simp [Region.wanted, hg, hy']), rfl⟩, k.run _ (ha.out hf undef)⟩
theorem o_b {i j : Nat} {want : Bool} {d : Nat} (ho : ops[i]? = some o) (hg : o.guard = some (j, want)) (hj : (ops[j]?).bind (·.dst) = some d) (hb : q_ e d = some undef) (hf : a_Y N o = true)
  (k : PR X P N ops T K p (out o undef e) w) : PR X P N ops T K (.rd i p) e w := by
 constructor
 intro a ha
 have hy' : yielded ops a.tmps j = none := by
  have := ha.at_ d _ hb
  simp [yielded, hj, this, undef]
 exact ⟨o, undef, ho, .inr ⟨by simp [Region.wanted, hg, hy'], rfl⟩, k.run _ (ha.out hf undef)⟩
theorem k_S {i : Nat} {R : Value → World → Prop} (ho : ops[i]? = some o) (hw : ∀ a, Sat N e a → Region.wanted o (yielded ops a.tmps) = true) (hf : a_Y N o = true) (h : Ef P N o e w R)
  (hT : T.testBit i = true ∨ ∀ v w', R v w' → Chg X w w') {a : Act} (ha : Sat N e a) (k : ∀ v w', R v w' → PR X P N ops T K p (out o v e) w') :
  opW P ops i (fun a' w' => (T.testBit i = false → Chg X w w') ∧ p.run X P ops T K a' w') a w := by
 unfold opW
 simp only [ho, hw a ha, if_true]
 refine Oper.wp_mono (fun a' w' ⟨v, he, hr⟩ => ?_) (h.run a ha F3)
 subst he
 exact ⟨fun ht => (hT.resolve_left (by simp [ht])) v w' hr, (k v w' hr).run _ (ha.out hf v)⟩
theorem PR_ef {i : Nat} {R : Value → World → Prop} (ho : ops[i]? = some o) (hg : o.guard = none) (hf : a_Y N o = true) (h : Ef P N o e w R)
  (hT : T.testBit i = true ∨ ∀ v w', R v w' → Chg X w w') (k : ∀ v w', R v w' → PR X P N ops T K p (out o v e) w') : PR X P N ops T K (.ef i p) e w := ⟨fun a ha =>
 k_S ho (fun _ _ => by simp [Region.wanted, hg]) hf h hT ha k⟩
theorem o_c {i j : Nat} {want : Bool} {d : Nat} {R : Value → World → Prop} (ho : ops[i]? = some o) (hg : o.guard = some (j, want)) (hj : (ops[j]?).bind (·.dst) = some d) (hb : q_ e d = some (.bool want)) (hf : a_Y N o = true) (h : Ef P N o e w R)
  (hT : T.testBit i = true ∨ ∀ v w', R v w' → Chg X w w') (k : ∀ v w', R v w' → PR X P N ops T K p (out o v e) w') : PR X P N ops T K (.ef i p) e w := ⟨fun a ha =>
 k_S ho (fun a ha => by
  have hy' : yielded ops a.tmps j = some want := by
   have := ha.at_ d _ hb
   simp [yielded, hj, this]
  simp [Region.wanted, hg, hy']) hf h hT ha k⟩
theorem k_T {i : Nat} (ho : ops[i]? = some o) (hw : ∀ a, Sat N e a → Region.wanted o (yielded ops a.tmps) = false) (hf : a_Y N o = true) (k : PR X P N ops T K p (out o undef e) w) : PR X P N ops T K (.ef i p) e w := by
 constructor
 intro a ha
 unfold a_w.run opW
 simp only [ho, hw a ha]
 exact ⟨fun _ => Chg.refl _ _, k.run _ (ha.out hf undef)⟩
theorem o_d {i j : Nat} {want : Bool} {d : Nat} (ho : ops[i]? = some o) (hg : o.guard = some (j, want)) (hj : (ops[j]?).bind (·.dst) = some d) (hb : q_ e d = some (.bool (!want))) (hf : a_Y N o = true)
  (k : PR X P N ops T K p (out o undef e) w) : PR X P N ops T K (.ef i p) e w :=
 k_T ho (fun a ha => by
  have hy' : yielded ops a.tmps j = some (!want) := by
   have := ha.at_ d _ hb
   simp [yielded, hj, this]
  cases want <;> simp [Region.wanted, hg, hy']) hf k
theorem o_e {i j : Nat} {want : Bool} {d : Nat} (ho : ops[i]? = some o) (hg : o.guard = some (j, want)) (hj : (ops[j]?).bind (·.dst) = some d) (hb : q_ e d = some undef) (hf : a_Y N o = true)
  (k : PR X P N ops T K p (out o undef e) w) : PR X P N ops T K (.ef i p) e w :=
 k_T ho (fun a ha => by
  have hy' : yielded ops a.tmps j = none := by
   have := ha.at_ d _ hb
   simp [yielded, hj, this, undef]
  simp [Region.wanted, hg, hy']) hf k
theorem d_o {i j : Nat} {q : a_w} (h1 : PR X P N ops T K (.ef i p) e w) (h2 : PR X P N ops T K (.ef j q) e w) : PR X P N ops T K (.br i p j q) e w := ⟨fun a ha => ⟨h1.run a ha, h2.run a ha⟩⟩
end
end Go.Vw
