import Derived.Test.YtfdcdeahjejlmaaGreatDoorVqOwn
import Derived.Great.BuildSlice
set_option linter.unusedVariables false
namespace Go.Vw
open Go.RowKit Dat
def evs (e : Env) : List Operand → Option (List Value)
 | [] => some []
 | x :: l => match ev e x, evs e l with
  | some v, some vs => some (v :: vs)
  | _, _ => none
theorem Sat.evs {N : Nat} {e : Env} {a : Act} (h : Sat N e a) : ∀ {l : List Operand} {vs : List Value}, evs e l = some vs → l.map a.eval = vs
 | [], vs, hv => by simp only [Vw.evs, Option.some.injEq] at hv; subst hv; rfl
 | x :: l, vs, hv => by
  simp only [Vw.evs] at hv
  split at hv
  ·rename_i v vs' h1 h2
   simp only [Option.some.injEq] at hv
   subst hv
   simp [h.ev h1, Sat.evs h h2]
  ·cases hv
structure New (w w' : World) (cs : List Value) : Prop where
 blk : Blk w' w.heap.size cs
 below : Below w.heap.size w w'
 size : w'.heap.size = w.heap.size + 1
theorem New.alloc (w : World) (cs : Array Value) (T : TypeId) : New w (w.alloc (.cells cs T)) cs.toList := ⟨alloc_blk' w cs T, a_B w _, by simp⟩
structure j_ (P : Program) (f : FuncId) (args : List Value) (w : World) (R : Value → World → Prop) : Prop where
 run : Calls P f args.toArray w (fun e w' => ∃ v, e = .returned v ∧ R v w')
theorem j_.mono {P : Program} {f : FuncId} {args : List Value} {w : World} {R R' : Value → World → Prop} (h : j_ P f args w R) (hr : ∀ v w', R v w' → R' v w') : j_ P f args w R' :=
 ⟨Calls.mono h.run fun _ _ ⟨v, he, h⟩ => ⟨v, he, hr _ _ h⟩⟩
section
variable {P : Program} {N : Nat} {e : Env} {w : World} {dst : Option Tmp} {ty : TypeId} {pos : String} {aft : Array Edge} {gd : Option (Nat × Bool)} {x y z : Operand}
theorem c_Z {o : Oper} {K : Value → World → Prop} (h : ∀ a, Sat N e a → ∃ v w', (execOp a.eval o).run P w = .ok (.value v) w' ∧ K v w') : Ef P N o e w K := ⟨fun a ha Q => by
 obtain ⟨v, w', hr, hk⟩ := h a ha
 unfold Oper.wp
 rw [hr]
 exact ⟨v, rfl, hk⟩⟩
theorem o_u {o : Oper} {K : Value → World → Prop} (h : ∀ a, Sat N e a → ∃ w', (execOp a.eval o).run P w = .ok .skip w' ∧ K undef w') : Ef P N o e w K := ⟨fun a ha Q => by
 obtain ⟨w', hr, hk⟩ := h a ha
 unfold Oper.wp
 rw [hr]
 exact ⟨undef, rfl, hk⟩⟩
theorem i_T {T : Nat} {z : Value} (hz : ∀ w, (zeroValue T).run P w = .ok z w) : Ef P N ⟨dst, .alloc T, ty, pos, aft, gd⟩ e w (fun v w' => v = .pointer (some ⟨w.heap.size, 0, none⟩) ∧ New w w' z.cells.toList) :=
 c_Z fun a ha => ⟨_, w.alloc (.cells z.cells T), by simp [execOp, Instr.alloc, hz, newVar, newRow], rfl, New.alloc _ _ _⟩
theorem i_U {T : Nat} {v : Value} (hx : ev e x = some v) : Ef P N ⟨dst, .box T x, ty, pos, aft, gd⟩ e w (fun v' w' => v' = .pointer (some ⟨w.heap.size, 0, none⟩) ∧ New w w' v.cells.toList) :=
 c_Z fun a ha => ⟨_, w.alloc (.cells v.cells T), by simp [execOp, Instr.box, ha.ev hx, newVar, newRow], rfl, New.alloc _ _ _⟩
theorem f_j {T n g o : Nat} {v : Value} {cur cur' : List Value} (hs : ∀ w, (sizeOf T).run P w = .ok n w) (hp : ev e x = some (.pointer (some ⟨g, o, none⟩))) (hv : ev e y = some v) (hB : Blk w g cur) (hn : v.cells.size = n)
  (ho : o + n ≤ cur.length) (h1 : ∀ u ∈ v.cells.toList, u.oneCell' = true) (hcur : cur.take o ++ v.cells.toList ++ cur.drop (o + v.cells.toList.length) = cur') :
  Ef P N ⟨none, .store T x y, ty, pos, aft, gd⟩ e w (fun _ w' => Blk w' g cur' ∧ Chg (· = g) w w') := by
 refine o_u fun a ha => ?_
 obtain ⟨w', hr, hb, hc⟩ := f_r (P := P) (o := o) v.cells.toList 0 w cur hB (by simpa [hn] using ho) h1
 refine ⟨w', ?_, ?_, hc⟩
 ·simp [execOp, Instr.storeAt, Instr.sureAddr, ha.ev hp, ha.ev hv, storeVar, hs, hn, hr]
 ·subst hcur; simpa using hb
theorem o_v (ρ : Operand → Value) (f : FuncId) (args : Array Operand) (tys : Array TypeId) (ty : TypeId) (w : World) (hρ : ρ (.func f) = .func (.func f) #[] #[]) :
  (resolve ρ { callee := .value (.func f), args, argTypes := tys } ty).run P w = .ok { target := .fn (.func f) #[], args := args.map ρ } w := by
 simp [resolve, hρ, Deferred.ofValue]
theorem i_V {f : FuncId} {args : List Operand} {tys : Array TypeId} {vs : List Value} {R : Value → World → Prop} (hcall : ∀ (args : Array Value) (w : World), (callFunc f args).run P w = .ok (.enter f args) w) (hv : evs e args = some vs) (hc : j_ P f vs w R) :
  Ef P N ⟨dst, .call { callee := .value (.func f), args := args.toArray, argTypes := tys }, ty, pos, aft, gd⟩ e w R := ⟨fun a ha Q => by
 have hm : (args.toArray.map a.eval) = vs.toArray := by rw [List.map_toArray, ha.evs hv]
 unfold Oper.wp
 have hr : (execOp a.eval ⟨dst, .call { callee := .value (.func f), args := args.toArray, argTypes := tys }, ty, pos, aft, gd⟩).run P w = .ok (.enter f vs.toArray) w := by
  simp [execOp, o_v a.eval f args.toArray tys ty w rfl, invoke, hcall, hm]
 rw [hr]
 exact Calls.mono hc.run fun e' w' ⟨v, he, hR⟩ => by subst he; exact ⟨v, rfl, hR⟩⟩
theorem i_W {T E n bytes : Nat} {zz : Value} {len : Nat} {pa : Array (Nat × Operand)} {vs : List Value} (parts : List Operand) (hE : El P T E n bytes zz) (hpa : pa = ((parts.zipIdx 0).map fun p => (p.2, p.1)).toArray) (hv : evs e parts = some vs) (hl : len = parts.length) (hsz : ∀ v ∈ vs, v.cells.size = n) (hsmall : len * n ≤ 16777216) (hpos : 0 < len) :
  Ef P N ⟨dst, .buildSlice T len pa, ty, pos, aft, gd⟩ e w (fun v w' => v = .slice (some ⟨w.heap.size, 0, none⟩) len len ∧ New w w' (vs.flatMap fun v => v.cells.toList)) := by
 refine c_Z fun a ha => ?_
 subst hpa
 obtain ⟨i, hi, hz, rfl, rfl⟩ := info_parts hE.info
 have hvs := ha.evs hv
 have hlen : vs.length = parts.length := by rw [← hvs]; simp
 have hm : ((((parts.zipIdx 0).map fun p => (p.2, p.1)).toArray).map fun (i, x) => (i, a.eval x)).toList = (vs.zipIdx 0).map fun p => (p.2, p.1) := by
  rw [← hvs, List.zipIdx_map]
  simp [List.map_map, Function.comp_def]
 have hf : Instr.fill (fun k => some (k * i.size, i.size)) ((Array.range (len * i.size)).map (zz.cells[· % zz.cells.size]!)) ((((parts.zipIdx 0).map fun p => (p.2, p.1)).toArray).map fun (i, x) => (i, a.eval x)).toList = some (vs.flatMap fun v => v.cells.toList).toArray := by
  rw [hm]
  exact Great.fill_whole hE.pos vs _ hsz (by simp [hlen, hl])
 have hr := run_buildSlice (P := P) w T E len _ _ i zz hE.sl hi hz (by omega) (by have := hE.pos; intro h; rcases Nat.mul_eq_zero.1 h with h | h <;> omega) hf
 refine ⟨_, w.alloc (.cells (vs.flatMap fun v => v.cells.toList).toArray E), ?_, rfl, ?_⟩
 ·simp only [execOp, Sem.run_bind, hr, Result.andThen_ok]; rfl
 ·simpa using New.alloc w (vs.flatMap fun v => v.cells.toList).toArray E
theorem l_0 {T E n bytes : Nat} {zz : Value} (hE : El P T E n bytes zz) :
  Ef P N ⟨dst, .buildSlice T 0 #[], ty, pos, aft, gd⟩ e w (fun v w' => v = .slice (some ⟨w.heap.size, 0, none⟩) 0 0 ∧ New w w' []) := by
 refine c_Z fun a ha => ?_
 obtain ⟨i, hi, hz, rfl, rfl⟩ := info_parts hE.info
 refine ⟨.slice (some ⟨w.heap.size, 0, none⟩) 0 0, w.alloc (.cells #[] E), ?_, rfl, by simpa using New.alloc w #[] E⟩
 simp [execOp, Instr.buildSlice, run_underlying hE.sl, sizeOf, typeInfo, hi, newRow, Instr.fill, Array.range_zero']
theorem o_w {T E n bytes : Nat} {zz : Value} {l c : Int} (hE : El P T E n bytes zz) (hl : ev e x = some (vI l)) (hc : ev e y = some (vI c)) (h0 : 0 ≤ l) (hlc : l ≤ c) (hb : (bytes : Int) * c ≤ 281474976710656) (h63 : c ≤ 9223372036854775807) :
  Ef P N ⟨dst, .makeSlice T x y, ty, pos, aft, gd⟩ e w (fun v w' => v = .slice (some ⟨w.heap.size, 0, none⟩) l.toNat c.toNat ∧ New w w' (madeCells zz.cells (c.toNat * n)).toList) := by
 refine c_Z fun a ha => ?_
 obtain ⟨i, hi, hz, rfl, rfl⟩ := info_parts hE.info
 have hr := run_make (P := P) w T E i zz hE.sl hi hz .i64 .i64 l c h0 hlc hb h63
 exact ⟨_, _, by simp only [execOp, ha.ev hl, ha.ev hc, Sem.run_bind, hr, Result.andThen_ok]; rfl, rfl, New.alloc _ _ _⟩
theorem l_1 {α : Type} [Dat α] {T E bytes : Nat} {zz : Value} (hE : El P T E (sz α) bytes zz) {S : List Nat} {sv : Value} {l : List α} (hx : ev e x = some sv) (ho : b_ w S sv l) (hN : S.Nodup)
  {p : Addr} {m c' : Nat} {news : List Value} {xs : List α} {Ts : List (List Nat)} (hy : ev e y = some (.slice (some p) m c')) (hm : m = xs.length) (hp : news ≠ [] → p.spot = none) (hl : news.length = xs.length * sz α) (hn : M_ w p.block p.off news)
  (hTl : Ts.length = xs.length) (hxs : ∀ (i : Nat) (x : α) (Ti : List Nat), xs[i]? = some x → Ts[i]? = some Ti → own w Ti (W_ (sz α) i news) x)
  (hD : ∀ k ∈ List.flatten Ts, k ∉ S) (hTN : (List.flatten Ts).Nodup) (hlen : l.length + xs.length ≤ LEN) (hby : (l.length + xs.length) * bytes ≤ 140737488355328) :
  Ef P N ⟨dst, .call { callee := .builtin .append, args := #[x, y], argTypes := #[T, T] }, ty, pos, aft, gd⟩ e w (fun v w' => ∃ S', b_ w' S' v (l ++ xs) ∧ S'.Nodup ∧ Chg (· ∈ S) w w' ∧ (∀ k ∈ S', k ∈ S ∨ k ∈ List.flatten Ts ∨ k = w.heap.size)) := by
 refine c_Z fun a ha => ?_
 subst hm
 obtain ⟨v', w', S', hr, h1, h2, h3, h4⟩ := p_n (P := P) hE w ty ho hN (c' := c') hp hl hn hTl hxs hD hTN hlen hby
 exact ⟨v', w', by simp [execOp, resolve, invoke, builtin, ha.ev hx, ha.ev hy, hr], S', h1, h2, h3, h4⟩
end
end Go.Vw
