import Derived.Test.YtlbigkipbbhhmaaGreatDoorVwFun
import Derived.RangeFuncFrom
import Derived.OrdersIn
import Derived.RangeFuncLeaves
namespace Go.Vw
open Go.RowKit Dat
theorem semAt_of {o : Oper} {ρ : Operand → Value} {l : Nat} (hd : ∀ c, o.op ≠ .defer c) : o.semAt (some l) ρ = execOp ρ o := by
 unfold Oper.semAt
 cases h : o.op <;> first | rfl | exact absurd h (hd _)
theorem opIn_of {P : Program} {n l : Nat} {o : Oper} {a : Act} {w : World} {K : Act → World → Prop} {Q : Exit → Act → World → Prop} (hd : ∀ c, o.op ≠ .defer c) (h : o.wp P a w K Q) : o.wpIn (Fence.wide.inRound l) n P a w K Q := by
 refine ⟨fun _ _ => trivial, ?_⟩
 show o.uponIn _ n P a K Q ((o.semAt (some l) a.eval).run P w)
 rw [semAt_of hd]
 unfold Oper.wp at h
 generalize (execOp a.eval o).run P w = r at *
 cases r with
 | ok m w' =>
  cases m <;> simp only [Oper.upon, Oper.uponIn] at h ⊢
  case value => exact h
  case skip => exact h
  case defer => exact h
  case enter f args => exact ⟨fun h => by simp [Fence.wide] at h, (show CallsIn Fence.wide (n - 1) P f args w' _ from callsIn_wide.2 h)⟩
  case row row args => exact ⟨fun h => by simp [Fence.wide] at h, fun c cs _ => let ⟨v, w', r, s⟩ := h c cs; ⟨v, w', r, stepsIn_wide.2 s⟩⟩
 | halt x w' => cases x <;> simp only [Oper.upon, Oper.uponIn] at h ⊢ <;> exact h
theorem listIn_of {P : Program} {n l : Nat} {ops : Array Oper} {Q : Exit → Act → World → Prop} (hQ : ¬ LetsOut Q) : ∀ (l1 : List Oper), (∀ o ∈ l1, ∀ c, o.op ≠ .defer c) → ∀ (a : Act) (w : World), wpList P ops Q l1 a w → wpListIn (Fence.wide.inRound l) n P ops Q l1 a w
 | [], _, a, w, h => h
 | o :: l1, hd, a, w, h => by
  unfold wpList at h
  unfold wpListIn
  have ih := fun a w h => listIn_of (P := P) (ops := ops) (n := n) (l := l) hQ l1 (fun o ho => hd o (List.mem_cons_of_mem _ ho)) a w h
  split at h
  ·rename_i hw
   rw [if_pos hw]
   rcases h with h | ⟨_, h⟩
   ·exact opIn_of (hd o List.mem_cons_self) (Oper.wp_mono (fun a w h => ih a w h) h)
   ·exact absurd h hQ
  ·rename_i hw
   rw [if_neg hw]
   exact ⟨fun _ _ => trivial, ih _ _ h⟩
def noDefer (l : List Oper) : Bool := l.all fun o => match o.op with | .defer _ => false | _ => true
theorem noDefer_all {l : List Oper} (h : noDefer l = true) : ∀ o ∈ l, ∀ c, o.op ≠ .defer c := fun o ho c hc => by
 have := List.all_eq_true.1 h o ho
 rw [hc] at this; cases this
def WCI (P : Program) (N n l : Nat) (c : Code) (K : Act → World → Prop) (Q : Exit → Act → World → Prop) (e : Env) (w : World) : Prop :=
 ∀ a, Sat N e a → c.wpIn (Fence.wide.inRound l) n P (Exit.then K Q) a w
section
variable {P : Program} {N n l : Nat} {K : Act → World → Prop} {Q : Exit → Act → World → Prop} {e : Env} {w : World}
theorem WCI_region {id : Nat} {l1 : List Oper} (hd : noDefer l1 = true) (hQ : ∀ a w, ¬ Q .outgrown a w) (h : WL P N l1.toArray K Q l1 e w) : WCI P N n l (.region id l1.toArray false) K Q e w := fun a ha =>
 wpIn_region_lit (listIn_of (Q := Exit.then K Q) (fun ⟨a, w, h⟩ => hQ a w h) l1 (noDefer_all hd) a w (h a ha))
theorem WCI_seq {x y : Code} (h : WCI P N n l x (fun a w => y.wpIn (Fence.wide.inRound l) n P (Exit.then K Q) a w) Q e w) : WCI P N n l (.seq x y) K Q e w := fun a ha =>
 wpIn_seq (Code.wpIn_mono (fun ex a w q => by cases ex <;> exact q) (h a ha))
theorem WCI_cond {c : Operand} {x y : Code} {b : Bool} (hc : ev e c = some (.bool b)) (ht : b = true → WCI P N n l x K Q e w) (hf : b = false → WCI P N n l y K Q e w) : WCI P N n l (.cond c x y) K Q e w := fun a ha =>
 wpIn_cond_split (ha.ev hc) (fun h => ht h a ha) (fun h => hf h a ha)
theorem WCI_skip (h : AtK N K e w) : WCI P N n l .skip K Q e w := fun a ha => wpIn_skip (h a ha)
theorem WCI_ret (h : ∀ a, Sat N e a → Q .ret a w) : WCI P N n l .ret K Q e w := fun a ha => wpIn_ret (h a ha)
theorem WCI_block {id : Nat} {c : Code} (h : WCI P N n l c K (inB id K Q) e w) : WCI P N n l (.block id c) K Q e w := fun a ha =>
 wpIn_block (Code.wpIn_mono (fun ex a w q => by
  cases ex with
  | exit i => simp only [Exit.then, inB, Exit.inBlock] at *; split <;> simp_all
  | _ => exact q) (h a ha))
theorem WCI.of_KC {y : Code} (h : WCI P N n l y K Q e w) : AtK N (fun a w => y.wpIn (Fence.wide.inRound l) n P (Exit.then K Q) a w) e w := h
def WLW (P : Program) (N : Nat) (ops : Array Oper) (K : Act → World → Prop) (Q : Exit → Act → World → Prop) (l : List Oper) (e : Env) (w : World) : Prop :=
 ∀ a, Sat N e a → wpListIn Fence.wide 1 P ops (Exit.then K Q) l a w
theorem WC_regionW {id : Nat} {l1 : List Oper} (h : WLW P N l1.toArray K Q l1 e w) : WC P N (.region id l1.toArray false) K Q e w := fun a ha =>
 wpIn_wide.1 (wpIn_region_lit (h a ha))
variable {ops : Array Oper} {rest : List Oper} {d : Tmp} {op : Op} {ty : TypeId} {pos : String} {aft : Array Edge}
theorem WLW_nil (h : AtK N K e w) : WLW P N ops K Q [] e w := fun a ha => h a ha
theorem WLW_rd {v : Value} (hf : Nat.blt d N = true) (h : Rd noX P N ⟨some d, op, ty, pos, aft, none⟩ e w v) (k : WLW P N ops K Q rest ((d, v) :: e) w) : WLW P N ops K Q (⟨some d, op, ty, pos, aft, none⟩ :: rest) e w := fun a ha => by
 unfold wpListIn
 rw [if_pos (by simp [Region.wanted])]
 refine ⟨fun _ _ => trivial, ?_⟩
 rw [Fence.wide_round, Oper.semAt_none]
 rw [h a ha w (Chg.refl _ _)]
 exact k _ (ha.put hf v)
theorem WLW_yield {x : Operand} {args : List Operand} {tys : Array TypeId} {vs : List Value} {y : Nat} {S : Value → World → Prop} {R : Ending → World → Prop} (hf : Nat.blt d N = true) (hx : ev e x = some (.func (.yield y) #[] #[])) (hv : evs e args = some vs) (hY : YieldAt Fence.wide 0 P y vs.toArray w R) (hR : ∀ e w', R e w' → ∃ v, e = .returned v ∧ S v w')
  (k : ∀ v w', S v w' → WLW P N ops K Q rest ((d, v) :: e) w') : WLW P N ops K Q (⟨some d, .call { callee := .value x, args := args.toArray, argTypes := tys }, ty, pos, aft, none⟩ :: rest) e w := fun a ha => by
 obtain ⟨fn, tmps, assign, body, hrun, hround⟩ := hY
 have hm : (args.toArray.map a.eval) = vs.toArray := by rw [List.map_toArray, ha.evs hv]
 unfold wpListIn
 rw [if_pos (by simp [Region.wanted])]
 refine ⟨fun _ _ => trivial, ?_⟩
 rw [Fence.wide_round, Oper.semAt_none]
 have hr : (execOp a.eval ⟨some d, .call { callee := .value x, args := args.toArray, argTypes := tys }, ty, pos, aft, none⟩).run P w = .ok (.round y fn tmps assign body) w := by
  simp [execOp, resolve, ha.ev hx, Deferred.ofValue, invoke, hm, hrun]
 rw [hr]
 refine ⟨fun h => by simp [Fence.wide] at h, hround.mono fun e' w' h => ?_⟩
 obtain ⟨v, rfl, hs⟩ := hR _ _ h
 exact k v w' hs _ (ha.put hf v)
end
def rowOf (W : World) (b g : Nat) : Prop := ∃ n c, W.cell? ⟨b, 0, none⟩ = some (.slice (some ⟨g, 0, none⟩) n c)
def mayTurn (b : Nat) (W : World) (k : Nat) : Prop := k = b ∨ rowOf W b k ∨ ∃ o, W.heap[k]? = some o ∧ o.isCells = false
structure KpS (b : Nat) (W W' : World) : Prop where
 chg : Chg (mayTurn b W) W W'
 row : ∀ g, rowOf W' b g → rowOf W b g ∨ W.heap.size ≤ g
theorem KpS.trans {b : Nat} {A B C : World} (h : KpS b A B) (k : KpS b B C) : KpS b A C :=
 ⟨⟨k.chg.os.trans h.chg.os, k.chg.tape.trans h.chg.tape, k.chg.output.trans h.chg.output, Nat.le_trans h.chg.size k.chg.size, fun i hi hx => by
  have h1 := h.chg.block i hi hx
  refine (k.chg.block i (Nat.lt_of_lt_of_le hi h.chg.size) fun hm => ?_).trans h1
  rcases hm with rfl | hm | ⟨o, ho, hc⟩
  ·exact hx (.inl rfl)
  ·rcases h.row i hm with h2 | h2
   ·exact hx (.inr (.inl h2))
   ·omega
  ·exact hx (.inr (.inr ⟨o, h1.symm.trans ho, hc⟩))⟩, fun g hg => by
  rcases k.row g hg with h1 | h1
  ·exact h.row g h1
  ·exact .inr (Nat.le_trans h.chg.size h1)⟩
theorem KpS.put {b : Nat} (W : World) (l : Nat) (o o' : Obj) (hb : b < l) (hl : W.heap[l]? = some o) (hc : o.isCells = false) : KpS b W (W.putObj l o') := by
 have hlt := (Array.getElem?_eq_some_iff.1 hl).1
 refine ⟨⟨rfl, rfl, rfl, by simp [World.putObj], fun k _ hx => ?_⟩, fun g hg => ?_⟩
 ·by_cases h : k = l
  ·subst h; exact absurd (.inr (.inr ⟨o, hl, hc⟩)) hx
  ·exact World.putObj_heap_other h
 ·left
  obtain ⟨n, c, h⟩ := hg
  refine ⟨n, c, ?_⟩
  rw [← h]
  exact (World.cell?_of_block (w := W) (a := ⟨b, 0, none⟩) (World.putObj_heap_other (Nat.ne_of_lt hb))).symm
theorem ownS_cells {α : Type} [Dat α] [FlatDat α] {w : World} {S : List Nat} {v : Value} {l : List α} (h : ownS w S v l) : ∀ k ∈ S, ∃ cur, Blk w k cur := by
 rcases h with ⟨_, _, rfl⟩ | ⟨g, c, cur, Ss, _, _, _, hb, _, rfl, hl, hi⟩
 ·intro k hk; cases hk
 ·intro k hk
  rcases List.mem_cons.1 hk with rfl | hk
  ·exact ⟨cur, hb⟩
  ·obtain ⟨Si, hSi, hk⟩ := List.mem_flatten.1 hk
   obtain ⟨i, hi'⟩ := List.mem_iff_getElem?.1 hSi
   have hlt := (List.getElem?_eq_some_iff.1 hi').1
   have := FlatDat.none (hi i l[i] Si (List.getElem?_eq_getElem (by omega)) hi')
   rw [this] at hk; cases hk
theorem Blk.isCells {w : World} {k : Nat} {cur : List Value} (h : Blk w k cur) {o : Obj} (ho : w.heap[k]? = some o) : o.isCells = true := by
 obtain ⟨T, fr, h, _⟩ := h
 rw [h] at ho; cases ho; rfl
theorem KpS.own {b : Nat} {α : Type} [Dat α] [FlatDat α] {w w' : World} {S : List Nat} {v : Value} {l : List α} (h : ownS w S v l) (hk : KpS b w w') (hb : b ∉ S) (hr : ∀ g, rowOf w b g → g ∉ S) : ownS w' S v l ∧ ∀ g, rowOf w' b g → g ∉ S := by
 refine ⟨h.chg hk.chg fun k hm ht => ?_, fun g hg hm => ?_⟩
 ·rcases ht with rfl | ht | ⟨o, ho, hc⟩
  ·exact hb hm
  ·exact hr k ht hm
  ·obtain ⟨cur, hB⟩ := ownS_cells h k hm
   rw [hB.isCells ho] at hc; cases hc
 ·rcases hk.row g hg with h1 | h1
  ·exact hr g h1 hm
  ·exact absurd (h.lt g hm) (Nat.not_lt.2 h1)
theorem Below.grows {w w' : World} (h : Below w.heap.size w w') : w.grownBy w' none := ⟨h.os, h.tape, h.output, h.size, fun k hk _ => h.block k hk⟩
theorem grown_chg {w w' : World} {row : Option Nat} (h : w.grownBy w' row) : Chg (fun k => row = some k) w w' := ⟨h.os, h.tape, h.output, h.size, fun k hk hx => h.block k hk fun e => hx e.symm⟩
theorem put_chg (w : World) (D : Nat) (o : Obj) : Chg (· = D) w (w.putObj D o) := ⟨rfl, rfl, rfl, by simp [World.putObj], fun k _ hx => World.putObj_heap_other hx⟩
def shD (ds : List Deferred) (a : Act) : Act := { a with defers := a.defers ++ ds }
theorem shD_put (ds : List Deferred) (a : Act) (d : Option Tmp) (v : Value) : (shD ds a).put d v = shD ds (a.put d v) := by cases d <;> rfl
theorem Oper_wp_shift {P : Program} {o : Oper} {a : Act} {w : World} {K K' : Act → World → Prop} {Q Q' : Exit → Act → World → Prop} (ds : List Deferred) (hK : ∀ a w, K a w → K' (shD ds a) w) (hQ : ∀ ex a w, Q ex a w → Q' ex (shD ds a) w) (h : o.wp P a w K Q) : o.wp P (shD ds a) w K' Q' := by
 have he : (shD ds a).eval = a.eval := rfl
 unfold Oper.wp at *
 rw [he]
 generalize (execOp a.eval o).run P w = r at *
 cases r with
 | ok n w' =>
  cases n <;> simp only [Oper.upon, shD_put] at h ⊢
  case value => exact hK _ _ h
  case skip => exact hK _ _ h
  case defer => exact (by have := hK _ _ h; rw [← shD_put] at this; exact this)
  case enter => exact Calls.mono h (fun e w'' he => by
   cases e with
   | returned v => exact hK _ _ he
   | panicked c => exact hQ _ _ _ he
   | outgrown => exact let ⟨a, w, h⟩ := he; ⟨_, _, hQ _ _ _ h⟩)
  case row => exact Rows.mono h (fun _ _ he => hK _ _ he)
 | halt x w' => cases x <;> simp only [Oper.upon] at h ⊢ <;> exact hQ _ _ _ h
theorem wpList_shift {P : Program} {ops : Array Oper} {Q Q' : Exit → Act → World → Prop} (ds : List Deferred) (hQ : ∀ ex a w, Q ex a w → Q' ex (shD ds a) w) : ∀ (l : List Oper) (a : Act) (w : World), wpList P ops Q l a w → wpList P ops Q' l (shD ds a) w
 | [], a, w, h => hQ _ _ _ h
 | o :: l, a, w, h => by
  have ht : (shD ds a).tmps = a.tmps := rfl
  have ih := fun a w h => wpList_shift (P := P) (ops := ops) ds hQ l a w h
  unfold wpList at h ⊢
  rw [ht]
  split at h
  ·rename_i hw
   rw [if_pos hw]
   rcases h with h | ⟨h1, a', w', h2⟩
   ·exact .inl (Oper_wp_shift ds (fun a w h => ih a w h) hQ h)
   ·exact .inr ⟨h1, _, _, hQ _ _ _ h2⟩
  ·rename_i hw
   rw [if_neg hw, shD_put]
   exact ih _ _ h
def QM (P : Program) (fn : Func) (R : Value → World → Prop) : Exit → Act → World → Prop := bodyPostM Fence.wide 2 P fn (fun e w' => ∃ v, e = .returned v ∧ R v w')
section
variable {P : Program} {N : Nat} {e : Env} {w : World} {fn : Func} {R : Value → World → Prop}
theorem retM {a : Act} (h : RetPost P fn R a w) : QM P fn R .ret a w := by
 obtain ⟨hd, v, hr, hR⟩ := h
 show LeavesInM _ _ _ _ _ _ a.defers .returning w
 rw [hd]
 exact ⟨v, hr, v, rfl, hR⟩
theorem retD {a : Act} {D : Nat} {v : Value} (hd : a.defers = []) (hD : w.heap[D]? = some (.deferred (some []))) (hr : (results fn a.tmps).run P (w.putObj D (.deferred none)) = .ok v (w.putObj D (.deferred none))) (hR : R v (w.putObj D (.deferred none))) : QM P fn R .ret (shD [{ target := .collected D, args := #[] }] a) w := by
 show LeavesInM _ _ _ _ _ _ (a.defers ++ [_]) .returning w
 rw [hd]
 exact ⟨by simp, .inl ⟨D, _, rfl, run_takeDeferred hD, v, hr, v, rfl, hR⟩⟩
theorem CallsR_of_marks {f : FuncId} {c : Code} {args : List Value} (hf : P.funcs[f]? = some fn) (hb : fn.body = some c) (hN : fn.ntmps = N) (hle : args.length ≤ N) (h : WC P N c noK (QM P fn R) (envOf 0 args) w) : CallsR P f args w R := by
 refine ⟨callsIn_wide.1 (callsIn_of_wp_marks (n := 2) hf hb trivial (wpIn_wide.2 (Code.wp_mono (fun ex a w q => ?_) (h _ ⟨rfl, ?_, ?_⟩))))⟩
 ·cases ex with
  | normal => exact (show False from q).elim
  | _ => exact q
 ·simp [hN]; omega
 ·intro t v ht
  obtain ⟨_, h2⟩ := look_envOf args 0 t v ht
  have hlt := (List.getElem?_eq_some_iff.1 h2).1
  simp only [Nat.sub_zero] at h2 hlt
  rw [Array.getElem?_append_left (by simpa using hlt)]
  simpa using h2
theorem tailD {id D : Nat} {l1 : List Oper} (h : WL P N l1.toArray (fun a w' => a.defers = [] ∧ w'.heap[D]? = some (.deferred (some [])) ∧ ∃ v, (results fn a.tmps).run P (w'.putObj D (.deferred none)) = .ok v (w'.putObj D (.deferred none)) ∧ R v (w'.putObj D (.deferred none))) (fun _ _ _ => False) l1 e w) {a : Act} (ha : Sat N e a) :
  (Code.seq (.region id l1.toArray false) .ret).wp P (Exit.then noK (QM P fn R)) (shD [{ target := .collected D, args := #[] }] a) w := by
 refine wp_seq (wp_region_lit (wpList_shift _ (fun ex a w q => ?_) l1 a w (h a ha)))
 cases ex with
 | normal =>
  obtain ⟨h1, h2, v, h3, h4⟩ := q
  exact wp_ret (retD h1 h2 h3 h4)
 | _ => exact (show False from q).elim
theorem WC_rangeStr {α : Type} (f : α → Str) {K : Act → World → Prop} {Q : Exit → Act → World → Prop} {b0 ra : Nat} {g : Operand} {p t : Tmp} {ty : TypeId} {pos : String} {aft : Array Edge} {body tail : Code} {gf : Nat} {lb : List Value} {b M : Nat} {S Sp : List α → Prop}
  (hg : ev e g = some (.func (.func gf) #[] lb.toArray)) (eg : ∀ args w, (callFunc gf args).run P w = .ok (.enter gf args) w) (hp : Nat.blt p N = true) (ht : Nat.blt t N = true) (hbw : b < w.heap.size)
  (hseq : SeqStopsK Fence.wide 1 P gf lb.toArray (fun x : α => #[(f x).v]) (KpS b) S Sp M w) (I Ix : List α → World → Prop) (hI : OwnFrom w.heap.size I) (hIx : OwnFrom w.heap.size Ix) (h0 : I [] w)
  (hbody : ∀ l pre (x : α) W, I pre W → pre.length < M → WCI P N 0 l body (fun _ W' => KeepsOthers W W' ∧ KpS b W W' ∧ I (pre ++ [x]) W') (fun ex _ W' => ex = .ret ∧ KeepsOthers W W' ∧ Ix (pre ++ [x]) W') ((t, (f x).v) :: (p, (f x).v) :: e) W)
  (hdone : ∀ D xs W, w.heap.size ≤ D → S xs → I xs W → W.heap[D]? = some (.deferred (some [])) → ∀ a, Sat N e a → tail.wp P (Exit.then K Q) (shD [{ target := .collected D, args := #[] }] a) W)
  (hstop : ∀ D pre W, w.heap.size ≤ D → Sp pre → Ix pre W → W.heap[D]? = some (.deferred (some [])) → ∀ a, Sat N e a → Q .ret (shD [{ target := .collected D, args := #[] }] a) W) :
  WC P N (.block b0 (.rangeFunc g #[p] (.region ra #[⟨some t, .assign (.tmp p), ty, pos, aft, none⟩] false) body)) (KC P tail K Q) Q e w := fun a ha => by
 refine wp_block ((wpIn_wide (n := 2)).1 ?_)
 have hsh : ∀ D : Nat, ({ a with defers := { target := .collected D, args := #[] } :: a.defers } : Act) = shD [{ target := .collected D, args := #[] }] a := fun D => by
  unfold shD; rw [ha.defers]; rfl
 have hsat : ∀ x : α, Sat N ((t, (f x).v) :: (p, (f x).v) :: e) { tmps := (a.tmps.setIfInBounds p (f x).v).setIfInBounds t (f x).v, defers := [] } := fun x => by
  have h1 := (ha.put hp (f x).v).put ht (f x).v
  exact ⟨rfl, h1.size, h1.at_⟩
 refine wpIn_rangeFunc_ownF (F := Fence.wide) (n := 2) rfl (by omega) (gf := gf) (lb := lb.toArray) (ha.ev hg) trivial eg (encs := fun x : α => #[(f x).v]) (Kp := KpS b) (S := S) (Sp := Sp) (N := M) (w0 := w) hseq (fun h k => h.trans k) (fun W l o o' hl h1 h2 _ => KpS.put W l o o' (Nat.lt_of_lt_of_le hbw hl) h1 h2) (Below.refl _ _) (fun _ => rfl)
  I (fun c pre W => c = .ret ∧ Ix pre W) hI (fun c s W W' row hs hg hr => ⟨hs.1, hIx s W W' row hs.2 hg hr⟩) h0 (fun x => { tmps := (a.tmps.setIfInBounds p (f x).v).setIfInBounds t (f x).v, defers := [] }) ?_ ?_ ?_ ?_
 ·intro l x W K hK
  have hps : p < a.tmps.size := by rw [ha.size]; simpa using hp
  refine wpIn_region_lit (l := [⟨some t, .assign (.tmp p), ty, pos, aft, none⟩]) ?_
  unfold wpListIn
  rw [if_pos (by simp [Region.wanted])]
  refine ⟨fun _ _ => trivial, ?_⟩
  rw [Fence.inRound_round, semAt_of (by intro c h; cases h)]
  simp only [execOp, Sem.run_pure, Oper.uponIn]
  have he : (Act.eval { tmps := Array.foldl (fun t (x : Tmp × Value) => match x with | (p, v) => t.setIfInBounds p v) a.tmps (#[p].zip #[(f x).v]), defers := [] } (.tmp p)) = (f x).v := by
   simp [Act.eval, Array.getD_eq_getD_getElem?, hps]
  rw [he]
  have hf : Array.foldl (fun t (x : Tmp × Value) => t.setIfInBounds x.1 x.2) a.tmps (#[p].zip #[(f x).v]) = a.tmps.setIfInBounds p (f x).v := by simp
  rw [show (Array.foldl (fun t (x : Tmp × Value) => match x with | (p, v) => t.setIfInBounds p v) a.tmps (#[p].zip #[(f x).v])) = a.tmps.setIfInBounds p (f x).v from hf]
  exact hK
 ·intro l pre x W hI hlt
  refine Code.wpIn_mono (fun ex a' W' q => ?_) (hbody l pre x W hI hlt _ (hsat x))
  cases ex with
  | normal => exact q
  | ret => exact ⟨q.2.1, rfl, q.2.2⟩
  | _ => exact absurd q.1 (by simp)
 ·intro D xs W hD hS hI hdef
  rw [hsh]
  exact hdone D xs W hD hS hI hdef a ha
 ·rintro D c pre W hD hSp ⟨rfl, hx⟩ hdef
  rw [hsh]
  exact wpIn_ret (hstop D pre W hD hSp hx hdef a ha)
end
def rowS (w : World) (G : Nat → Prop) (v : Value) (l : List Str) : Prop :=
 ∃ ao c, v = .slice ao l.length c ∧ l.length ≤ c ∧ l.length ≤ LEN ∧ (ao = none → l = []) ∧ ∀ p, ao = some p → (l ≠ [] → p.spot = none ∧ G p.block) ∧ ∀ (i : Nat) (x : Str), l[i]? = some x → CellsAt w p.block (p.off + i * sz Str) [x.v] ∧ x.b.length ≤ LEN
theorem rowS.repS {w : World} {G : Nat → Prop} {v : Value} {l : List Str} {B : Nat} (h : rowS w G v l) (hB : ∀ k, G k → k < B) : Vw.repS w B v l := by
 obtain ⟨ao, c, rfl, h1, h2, h3, h4⟩ := h
 refine ⟨ao, c, rfl, h1, h2, h3, fun p hp => ?_⟩
 obtain ⟨k1, k2⟩ := h4 p hp
 exact ⟨fun hn => (k1 hn).1, fun hn => hB _ (k1 hn).2, fun i x hx => ⟨[x.v], (k2 i x hx).1, _, rfl, rfl, (k2 i x hx).2⟩⟩
theorem rowS.stay {w w' : World} {G : Nat → Prop} {v : Value} {l : List Str} (h : rowS w G v l) (he : ∀ k, G k → w'.heap[k]? = w.heap[k]?) : rowS w' G v l := by
 obtain ⟨ao, c, rfl, h1, h2, h3, h4⟩ := h
 refine ⟨ao, c, rfl, h1, h2, h3, fun p hp => ?_⟩
 obtain ⟨k1, k2⟩ := h4 p hp
 refine ⟨k1, fun i x hx => ⟨(k2 i x hx).1.of_block (he _ (k1 fun hn => by rw [hn] at hx; simp at hx).2), (k2 i x hx).2⟩⟩
theorem rowS_part {w : World} {S : List Nat} {ao : Option Addr} {n c : Nat} {l m : List Str} {a b : Int} (h : ownS w S (.slice ao n c) l) (hs : slc l a b = some m) :
  rowS w (· ∈ S) (.slice (if c = a.toNat then ao else ao.map (·.add (a.toNat * sz Str))) m.length (c - a.toNat)) m := by
 obtain ⟨g1, g2, g3, rfl⟩ := slcS hs
 rcases h with ⟨he, rfl, rfl⟩ | ⟨g, c', cur, Ss, he, k1, k2, k3, k4, rfl, k6, k7⟩
 ·simp only [Value.slice.injEq] at he
  obtain ⟨rfl, rfl, rfl⟩ := he
  refine ⟨_, _, rfl, by simp, by simp, fun _ => by simp, fun p hp => ?_⟩
  exact ⟨fun h => absurd (by simp) h, fun i x hx => by simp at hx⟩
 ·simp only [Value.slice.injEq] at he
  obtain ⟨rfl, rfl, rfl⟩ := he
  refine ⟨_, _, rfl, by simp; omega, by simp; omega, fun hn => ?_, fun p hp => ?_⟩
  ·split at hn <;> simp at hn
  ·by_cases hc : c = a.toNat
   ·rw [if_pos hc] at hp
    have hnil : (l.take b.toNat).drop a.toNat = [] := by
     apply List.drop_of_length_le; simp; omega
    rw [hnil]
    exact ⟨fun h => absurd rfl h, fun i x hx => by simp at hx⟩
   ·rw [if_neg hc] at hp
    simp only [Option.map_some, Option.some.injEq, Addr.add_lit] at hp
    subst hp
    refine ⟨fun _ => ⟨rfl, List.mem_cons_self⟩, fun i x hx => ?_⟩
    rw [List.getElem?_drop, List.getElem?_take] at hx
    split at hx
    ·have hlt := (List.getElem?_eq_some_iff.1 hx).1
     obtain ⟨v, hv, hvx, hl⟩ := (k7 _ x Ss[a.toNat + i] hx (List.getElem?_eq_getElem (by omega))).2
     have h1 : (sz Str) = 1 := rfl
     refine ⟨fun j u hu => ?_, hl⟩
     have hj : j = 0 := by
      have := (List.getElem?_eq_some_iff.1 hu).1; simp at this; exact this
     subst hj
     simp at hu
     subst hu
     rw [k3.cell]
     have h2 : cur[(a.toNat + i) * 1]? = some x.v := by
      have h3 : (List.take (sz Str) (List.drop ((a.toNat + i) * sz Str) cur))[0]? = some v := by rw [hv]; rfl
      rw [List.getElem?_take, if_pos (by rw [h1]; omega), List.getElem?_drop] at h3
      rw [hvx] at h3
      simpa [h1] using h3
     simp only [h1] at *
     have e : 0 + a.toNat * 1 + i * 1 + 0 = (a.toNat + i) * 1 := by omega
     rw [e]; exact h2
    ·cases hx
section
variable {X : Nat → Prop} {P : Program} {N : Nat} {e : Env} {w : World} {dst : Option Tmp} {ty : TypeId} {pos : String} {aft : Array Edge} {gd : Option (Nat × Bool)} {x : Operand} {T E : Nat}
theorem rd_sliceG {S : List Nat} {n c : Nat} {ao : Option Addr} {l m : List Str} {a b : Int} {lo hi : Option Operand} (hT : P.underlying T = some (.slice E)) (hs : ∀ w, (sizeOf E).run P w = .ok 1 w) (hx : ev e x = some (.slice ao n c)) (h : ownS w S (.slice ao n c) l)
  (hlo : evo e lo 0 a) (hhi : evo e hi l.length b) (hm : slc l a b = some m) :
  ∃ v, Rd X P N ⟨dst, .slice T x lo hi none, ty, pos, aft, gd⟩ e w v ∧ rowS w (· ∈ S) v m := by
 obtain ⟨g1, g2, g3, _⟩ := slcS hm
 have hml := slcS_len hm
 have hr := h.rep
 obtain ⟨ao', c', he, k1, k2, k3, k4⟩ := hr
 simp only [Value.slice.injEq] at he
 obtain ⟨rfl, rfl, rfl⟩ := he
 refine ⟨_, ?_, rowS_part h hm⟩
 intro act ha w' _
 have hsl : (Instr.sliceAt T (.slice ao l.length c) (lo.map act.eval) (hi.map act.eval) none).run P w' = .ok (.slice (if c = a.toNat then ao else ao.map (·.add (a.toNat * 1))) (b.toNat - a.toNat) (c - a.toNat)) w' := by
  have hb : ∀ code, (Instr.sliceBound (vI b) c code).run P w' = .ok b.toNat w' := fun code => run_sliceBound w' .i64 b c code (by omega) (by omega)
  have hal : ∀ code, (Instr.sliceBound (vI a) b.toNat code).run P w' = .ok a.toNat w' := fun code => run_sliceBound w' .i64 a b.toNat code g1 (by omega)
  have hbs : (Instr.sliceBounds true l.length c (lo.map act.eval) (hi.map act.eval) none).run P w' = .ok (a.toNat, b.toNat, c) w' := by
   cases lo with
   | none =>
    obtain rfl : a = 0 := hlo
    cases hi with
    | none =>
     obtain rfl : b = (l.length : Int) := hhi
     simp [Instr.sliceBounds]
    | some y => simp [Instr.sliceBounds, ha.ev hhi, hb]
   | some u =>
    cases hi with
    | none =>
     obtain rfl : b = (l.length : Int) := hhi
     have hal' : ∀ code, (Instr.sliceBound (vI a) l.length code).run P w' = .ok a.toNat w' := fun code => by simpa using hal code
     simp [Instr.sliceBounds, ha.ev hlo, hal']
    | some y => simp [Instr.sliceBounds, ha.ev hlo, ha.ev hhi, hb, hal]
  simp [Instr.sliceAt, run_underlying hT, Instr.slice, hbs, hs]
 have hmm : b.toNat - a.toNat = m.length := by omega
 simp only [execOp, ha.ev hx, Option.map_none, Sem.run_bind, hsl, Result.andThen_ok, hmm]
 rfl
end
theorem ownS_head {α : Type} [Dat α] [FlatDat α] {w : World} {S : List Nat} {ao : Option Addr} {n c : Nat} {l : List α} (h : ownS w S (.slice ao n c) l) : (∀ k ∈ S, ao = some ⟨k, 0, none⟩) ∧ ∀ g o s, ao = some ⟨g, o, s⟩ → g ∈ S := by
 rcases h with ⟨he, _, rfl⟩ | ⟨g, c', cur, Ss, he, _, _, _, _, rfl, hl, hi⟩
 ·simp only [Value.slice.injEq] at he
  exact ⟨fun k hk => (by cases hk), fun g o s h => (by rw [he.1] at h; cases h)⟩
 ·simp only [Value.slice.injEq] at he
  obtain ⟨rfl, _, _⟩ := he
  refine ⟨fun k hk => ?_, fun g' o s h => by cases h; exact List.mem_cons_self⟩
  rcases List.mem_cons.1 hk with rfl | hk
  ·rfl
  ·obtain ⟨Si, hSi, hk⟩ := List.mem_flatten.1 hk
   obtain ⟨i, hi'⟩ := List.mem_iff_getElem?.1 hSi
   have hlt := (List.getElem?_eq_some_iff.1 hi').1
   have := FlatDat.none (hi i l[i] Si (List.getElem?_eq_getElem (by omega)) hi')
   rw [this] at hk; cases hk
theorem rowOf_blk {w : World} {b g n c : Nat} {ao : Option Addr} (h : Blk w b [.slice ao n c]) (hr : rowOf w b g) : ao = some ⟨g, 0, none⟩ := by
 obtain ⟨n', c', hr⟩ := hr
 rw [h.cell] at hr
 simp at hr
 exact hr.1
theorem keeps_chg {X : Nat → Prop} {w w' : World} (hc : Chg X w w') (hx : ∀ k, k < w.heap.size → X k → ∃ cur, Blk w k cur) : KeepsOthers w w' := ⟨hc.size, fun k o hk ho => by
 have hlt := (Array.getElem?_eq_some_iff.1 hk).1
 refine (hc.block k hlt fun h => ?_).trans hk
 obtain ⟨cur, hB⟩ := hx k hlt h
 rw [hB.isCells hk] at ho; cases ho⟩
theorem KpS.of_chg {b n c n' c' : Nat} {ao ao' : Option Addr} {α : Type} [Dat α] [FlatDat α] {w w' : World} {S S' : List Nat} {l l' : List α} (hB : Blk w b [.slice ao n c]) (ho : ownS w S (.slice ao n c) l) (hB' : Blk w' b [.slice ao' n' c']) (ho' : ownS w' S' (.slice ao' n' c') l') (hs : ∀ k ∈ S', k ∈ S ∨ w.heap.size ≤ k) (hc : Chg (fun k => k = b ∨ k ∈ S) w w') : KpS b w w' := by
 refine ⟨hc.mono fun k _ hk => ?_, fun g hg => ?_⟩
 ·rcases hk with rfl | hk
  ·exact .inl rfl
  ·refine .inr (.inl ⟨n, c, ?_⟩)
   rw [hB.cell, (ownS_head ho).1 k hk]; rfl
 ·have hg' := (ownS_head ho').2 g 0 none (rowOf_blk hB' hg)
  rcases hs g hg' with h | h
  ·left
   refine ⟨n, c, ?_⟩
   rw [hB.cell, (ownS_head ho).1 g h]; rfl
  ·exact .inr h
theorem Blk.grown {w w' : World} {row : Option Nat} {g : Nat} {l : List Value} (h : Blk w g l) (hg : w.grownBy w' row) (hr : ∀ r, row = some r → ∃ o : Obj, w.heap[r]? = some o ∧ o.isCells = false) : Blk w' g l := h.chg (grown_chg hg) fun he => by
 obtain ⟨o, ho, hc⟩ := hr g he
 rw [h.isCells ho] at hc; cases hc
theorem ownS_grown {α : Type} [Dat α] [FlatDat α] {w w' : World} {row : Option Nat} {S : List Nat} {v : Value} {l : List α} (h : ownS w S v l) (hg : w.grownBy w' row) (hr : ∀ r, row = some r → ∃ o : Obj, w.heap[r]? = some o ∧ o.isCells = false) : ownS w' S v l := h.chg (grown_chg hg) fun k hk he => by
 obtain ⟨o, ho, hc⟩ := hr k he
 obtain ⟨cur, hB⟩ := ownS_cells h k hk
 rw [hB.isCells ho] at hc; cases hc
def mapO {α β : Type} (f : α → Option β) : List α → Option (List β)
 | [] => some []
 | x :: l => bd (f x) fun y => bd (mapO f l) fun m => some (y :: m)
theorem mapO_all {α : Type} {f : α → Option Bool} : ∀ {l : List α} {m : List Bool}, mapO f l = some m → (∀ x ∈ l, f x = some ((f x).getD false)) ∧ (m.all id = true ↔ ∀ x ∈ l, (f x).getD false = true)
 | [], m, h => by cases h; simp
 | x :: l, m, h => by
  unfold mapO at h
  obtain ⟨y, hy, h⟩ := bdS h
  obtain ⟨m', hm, h⟩ := bdS h
  cases h
  obtain ⟨h1, h2⟩ := mapO_all hm
  refine ⟨fun z hz => ?_, ?_⟩
  ·rcases List.mem_cons.1 hz with rfl | hz
   ·rw [hy]; rfl
   ·exact h1 z hz
  ·simp only [List.all_cons, Bool.and_eq_true, List.forall_mem_cons, hy, Option.getD_some, id, h2]
end Go.Vw
