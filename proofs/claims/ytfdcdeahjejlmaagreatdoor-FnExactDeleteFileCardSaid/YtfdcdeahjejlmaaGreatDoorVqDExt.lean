/- The package-level variables, and the library's functions that are called. -/
import Derived.Test.YtfdcdeahjejlmaaGreatDoorVqGl
import Derived.WalkKit
import Derived.LaidEql
import Derived.Stop.Asserts
import Derived.RowKitTokens
import Derived.Test.YtfdcdeahjejlmaaGreatDoorProg
set_option linter.unusedVariables false
namespace Go.Vw
open Go.RowKit Dat Go.Proofs
/-- What the variables hold. -/
def GD (w : World) : Prop := w.cell? ⟨0, 0, none⟩ = some (.iface 219 (.agg #[.pointer (some ⟨4, 159, none⟩)]))
abbrev Gl : World → Zone → Prop := GlW 4 GD
theorem gl_err {w : World} {B : Zone} (h : Gl w B) : w.cell? ⟨0, 0, none⟩ = some (.iface 219 (.agg #[.pointer (some ⟨4, 159, none⟩)])) := h.cell (fun _ h => h) (by decide)

section
open Go.Extern.Stop Go.Stop Go.Extern
/-! ### errors.As at one target type (after the kit's worked example) -/
theorem as_nil (t : Value) (w : World) : Calls Tryz.prog 155 #[.nilIface, t] w fun e w' => e = .returned (.bool false) ∧ w' = w := by
  go_enter Tryz.func155, Tryz.ntmps155
  go_wp2
  go_ret
  exact ⟨rfl, rfl⟩
theorem n_K (t : Addr) (w : World) : (ReflectliteValue.unpack (.iface 164 (.pointer (some t)))).run Tryz.prog w
    = .ok (.agg #[.pointer (some ⟨4, 164, none⟩), .pointer (some ⟨w.heap.size, 0, none⟩), .int .u64 150]) (w.alloc (.cells #[.pointer (some t)] 164)) := by kernel_rfl
theorem n_L (a : Addr) (w : World) : (ReflectliteValue.methodAny (ReflectliteValue.valueError "reflectlite.Value.Type" 0) (fun t _ _ _ => ReflectliteType.toType t) #[.agg #[.pointer (some ⟨4, 164, none⟩), .pointer (some a), .int .u64 150]]).run Tryz.prog w
    = .ok (.iface 219 (.agg #[.pointer (some ⟨4, 164, none⟩)])) w := by kernel_rfl
theorem n_M (h : Value) (w : World) : (Go.method 364 219 (.agg #[h]) "Kind").run Tryz.prog w = .ok (224, h) w := by kernel_rfl
theorem n_N (w : World) : ((ReflectliteType.abiMethod fun t => Functor.map (fun a : Nat => Value.int IntKind.u8 (a : Int)) (Rtype.kind t)) #[.pointer (some ⟨4, 164, none⟩)]).run Tryz.prog w = .ok (.int .u8 22) w := by kernel_rfl
theorem n_O (w : World) : ((ReflectliteType.abiMethod fun t => Functor.map (fun a : Nat => Value.int IntKind.u8 (a : Int)) (Rtype.kind t)) #[.pointer (some ⟨4, 162, none⟩)]).run Tryz.prog w = .ok (.int .u8 22) w := by kernel_rfl
theorem k_Z (z : Sem Value) (f : TypeId → Addr → Nat → Nat → Sem Value) (v : Value) :
    ReflectliteValue.method z f #[v] = (do match ← ReflectliteValue.parts v with | none => z | some (t, a, fl) => f t a fl (fl % 32)) := rfl
theorem l_0 (a : Addr) (w : World) : (ReflectliteValue.parts (.agg #[.pointer (some ⟨4, 164, none⟩), .pointer (some a), .int .u64 150])).run Tryz.prog w = .ok (some (164, a, 150)) w := by kernel_rfl
theorem n_P (a p : Addr) (W : World) (ha : W.cell? a = some (.pointer (some p))) :
    (ReflectliteValue.method (ReflectliteValue.valueError "reflectlite.Value.IsNil" 0) ReflectliteValue.isNil #[.agg #[.pointer (some ⟨4, 164, none⟩), .pointer (some a), .int .u64 150]]).run Tryz.prog W = .ok (.bool false) W := by
  rw [k_Z]
  simp only [Sem.run_bind, l_0, Result.andThen]
  simp [ReflectliteValue.isNil, loadVar, isAgg, underlying, Tryz.underlying164, ha, Result.andThen]
theorem n_Q (h : Value) (w : World) : (Go.method 364 219 (.agg #[h]) "Elem").run Tryz.prog w = .ok (234, .agg #[h]) w := by kernel_rfl
theorem n_R (h : Value) (w : World) : (Go.method 364 219 (.agg #[h]) "Implements").run Tryz.prog w = .ok (235, .agg #[h]) w := by kernel_rfl
theorem n_S (h : Value) (w : World) : (Go.method 364 219 (.agg #[h]) "AssignableTo").run Tryz.prog w = .ok (232, .agg #[h]) w := by kernel_rfl
theorem n_T (w : World) : (ReflectliteType.method ReflectliteType.elem #[.agg #[.pointer (some ⟨4, 164, none⟩)]]).run Tryz.prog w = .ok (.iface 219 (.agg #[.pointer (some ⟨4, 162, none⟩)])) w := by kernel_rfl
theorem n_U (w : World) : (ReflectliteType.relation "Implements" ReflectliteType.implements_ #[.agg #[.pointer (some ⟨4, 162, none⟩)], .iface 219 (.agg #[.pointer (some ⟨4, 159, none⟩)])]).run Tryz.prog w = .ok (.bool true) w := by kernel_rfl
theorem n_V (v : Value) (w : World) : (ReflectliteType.typeOf #[.iface 162 v]).run Tryz.prog w = .ok (.iface 219 (.agg #[.pointer (some ⟨4, 162, none⟩)])) w := by kernel_rfl
theorem n_W (w : World) : (ReflectliteType.relation "AssignableTo" ReflectliteType.assignableTo #[.agg #[.pointer (some ⟨4, 162, none⟩)], .iface 219 (.agg #[.pointer (some ⟨4, 162, none⟩)])]).run Tryz.prog w = .ok (.bool true) w := by kernel_rfl
theorem n_X (e : Addr) (w : World) : (ReflectliteValue.unpack (.iface 162 (.pointer (some e)))).run Tryz.prog w
    = .ok (.agg #[.pointer (some ⟨4, 162, none⟩), .pointer (some ⟨w.heap.size, 0, none⟩), .int .u64 150]) (w.alloc (.cells #[.pointer (some e)] 162)) := by kernel_rfl
theorem n_Y (w : World) : (Rtype.elem? 164).run Tryz.prog w = .ok (some 162) w := by kernel_rfl
theorem n_Z (p : Addr) (w : World) : (ReflectliteValue.mk 162 p ReflectliteValue.flagAddr).run Tryz.prog w = .ok (.agg #[.pointer (some ⟨4, 162, none⟩), .pointer (some p), .int .u64 406]) w := by kernel_rfl
theorem o_0 (a p : Addr) (W : World) (ha : W.cell? a = some (.pointer (some p))) :
    (ReflectliteValue.method (ReflectliteValue.valueError "reflectlite.Value.Elem" 0) ReflectliteValue.elem #[.agg #[.pointer (some ⟨4, 164, none⟩), .pointer (some a), .int .u64 150]]).run Tryz.prog W
      = .ok (.agg #[.pointer (some ⟨4, 162, none⟩), .pointer (some p), .int .u64 406]) W := by
  rw [k_Z]
  simp only [Sem.run_bind, l_0, Result.andThen]
  simp [ReflectliteValue.elem, loadVar, isAgg, underlying, Tryz.underlying164, ha, Result.andThen, n_Y, n_Z]
theorem as_rls (v x : Value) : ReflectliteValue.set #[v, x] = (do
    let (some (dst, a, fl), some (src, b, _)) := (← ReflectliteValue.parts v, ← ReflectliteValue.parts x)
      | unsupported (.noEntry "extern/(internal/reflectlite.Value).Set.zeroValue")
    if fl / ReflectliteValue.flagAddr % 2 == 0 then unsupported (.noEntry "extern/(internal/reflectlite.Value).Set.unaddressable")
    let val ← loadVar src b
    if ← Rtype.directlyAssignable dst src then storeVar dst a val
    else if ← Rtype.implements dst src then
      if (← Rtype.kind src) == 20 then
        match val with
        | .nilIface => unsupported (.noEntry "extern/reflectlite: a nil value of one interface type handed on as a value of another")
        | _ => storeVar dst a val
      else storeVar dst a (.iface src val)
    else panicString ("reflectlite.Set: value of type " ++ (← Rtype.spelt src) ++ " is not assignable to type " ++ (← Rtype.spelt dst))
    pure (.tuple #[])) := rfl
theorem o_1 (a : Addr) (w : World) : (ReflectliteValue.parts (.agg #[.pointer (some ⟨4, 162, none⟩), .pointer (some a), .int .u64 406])).run Tryz.prog w = .ok (some (162, a, 406)) w := by kernel_rfl
theorem o_2 (a : Addr) (w : World) : (ReflectliteValue.parts (.agg #[.pointer (some ⟨4, 162, none⟩), .pointer (some a), .int .u64 150])).run Tryz.prog w = .ok (some (162, a, 150)) w := by kernel_rfl
theorem o_3 (w : World) : (Rtype.directlyAssignable 162 162).run Tryz.prog w = .ok true w := by kernel_rfl
theorem as_size25 (w : World) : (sizeOf 162).run Tryz.prog w = .ok 1 w := by kernel_rfl
theorem o_4 (ta b e : Addr) (old : Value) (W : World) (hb : W.cell? b = some (.pointer (some e))) (ht : W.cell? ta = some old) (hf : W.frozen? ta = false) :
    (ReflectliteValue.set #[.agg #[.pointer (some ⟨4, 162, none⟩), .pointer (some ta), .int .u64 406], .agg #[.pointer (some ⟨4, 162, none⟩), .pointer (some b), .int .u64 150]]).run Tryz.prog W
      = .ok (.tuple #[]) (W.setCell ta (.pointer (some e))) := by
  rw [as_rls]
  simp only [Sem.run_bind, o_1, o_2, Result.andThen]
  simp [ReflectliteValue.flagAddr, loadVar, isAgg, underlying, Tryz.underlying162, hb, Result.andThen, o_3, storeVar, Value.cells, storeCells, Addr.add]
  rw [run_store Tryz.prog W ta _ _ (by rfl)]
  simp [ht, hf]

set_option maxHeartbeats 4000000 in
theorem as_hit (e t : Addr) (old : Value) (w : World) (hg : w.cell? ⟨0, 0, none⟩ = some (.iface 219 (.agg #[.pointer (some ⟨4, 159, none⟩)]))) (ht0 : w.cell? t = some old) (hf0 : w.frozen? t = false) :
    Calls Tryz.prog 155 #[.iface 162 (.pointer (some e)), .iface 164 (.pointer (some t))] w fun ev w' => ev = .returned (.bool true) ∧ w' = ((((w.alloc (.cells #[.pointer (some t)] 164)).alloc (.cells #[.pointer (some ⟨4, 164, none⟩), .pointer (some ⟨w.heap.size, 0, none⟩), .int .u64 150] 198)).alloc (.cells #[.pointer (some ⟨4, 164, none⟩), .pointer (some ⟨w.heap.size, 0, none⟩), .int .u64 150] 198)).alloc (.cells #[.pointer (some e)] 162)).setCell t (.pointer (some e)) := by
  have h6 := @run_callFunc_extern Tryz.prog 191 _ (fun args => ReflectliteValue.unpack (args.getD 0 (.tuple #[]))) Tryz.func191 (by kernel_rfl) (by kernel_rfl) (by kernel_rfl) (by kernel_rfl)
  have h7 := @run_callFunc_extern Tryz.prog 192 _ (ReflectliteValue.methodAny (ReflectliteValue.valueError "reflectlite.Value.Type" 0) (fun t _ _ _ => ReflectliteType.toType t)) Tryz.func192 (by kernel_rfl) (by kernel_rfl) (by kernel_rfl) (by kernel_rfl)
  have h8 := @run_callFunc_extern Tryz.prog 193 _ (ReflectliteValue.method (ReflectliteValue.valueError "reflectlite.Value.IsNil" 0) ReflectliteValue.isNil) Tryz.func193 (by kernel_rfl) (by kernel_rfl) (by kernel_rfl) (by kernel_rfl)
  have h27 := @run_callFunc_extern Tryz.prog 224 _ (ReflectliteType.abiMethod fun t => do pure (.int .u8 (← Rtype.kind t))) Tryz.func224 (by kernel_rfl) (by kernel_rfl) (by kernel_rfl) (by kernel_rfl)
  have h37 := @run_callFunc_extern Tryz.prog 234 _ (ReflectliteType.method ReflectliteType.elem) Tryz.func234 (by kernel_rfl) (by kernel_rfl) (by kernel_rfl) (by kernel_rfl)
  have h38 := @run_callFunc_extern Tryz.prog 235 _ (ReflectliteType.relation "Implements" ReflectliteType.implements_) Tryz.func235 (by kernel_rfl) (by kernel_rfl) (by kernel_rfl) (by kernel_rfl)
  have h10 := @run_callFunc_extern Tryz.prog 205 _ ReflectliteType.typeOf Tryz.func205 (by kernel_rfl) (by kernel_rfl) (by kernel_rfl) (by kernel_rfl)
  have h35 := @run_callFunc_extern Tryz.prog 232 _ (ReflectliteType.relation "AssignableTo" ReflectliteType.assignableTo) Tryz.func232 (by kernel_rfl) (by kernel_rfl) (by kernel_rfl) (by kernel_rfl)
  have h11 := @run_callFunc_extern Tryz.prog 206 _ (ReflectliteValue.method (ReflectliteValue.valueError "reflectlite.Value.Elem" 0) ReflectliteValue.elem) Tryz.func206 (by kernel_rfl) (by kernel_rfl) (by kernel_rfl) (by kernel_rfl)
  have h12 := @run_callFunc_extern Tryz.prog 207 _ ReflectliteValue.set Tryz.func207 (by kernel_rfl) (by kernel_rfl) (by kernel_rfl) (by kernel_rfl)
  have tO := n_V
  have mA := n_S
  have a25 := n_W
  have v25 := n_X
  have f6 := n_K
  have f7 := n_L
  have mK := n_M
  have mE := n_Q
  have mI := n_R
  have k27 := n_N
  have k25 := n_O
  have e27 := n_T
  have i25 := n_U
  have n8 := n_P ⟨w.heap.size, 0, none⟩ t ((w.alloc (.cells #[.pointer (some t)] 164)).alloc (.cells #[.pointer (some ⟨4, 164, none⟩), .pointer (some ⟨w.heap.size, 0, none⟩), .int .u64 150] 198)) (by simp)
  have hlt : 0 < w.heap.size := World.block_lt_of_cell? w _ hg
  have hg2 : ((w.alloc (.cells #[.pointer (some t)] 164)).alloc (.cells #[.pointer (some ⟨4, 164, none⟩), .pointer (some ⟨w.heap.size, 0, none⟩), .int .u64 150] 198)).cell? ⟨0, 0, none⟩ = some (.iface 219 (.agg #[.pointer (some ⟨4, 159, none⟩)])) := by
    rw [World.cell?_alloc_lt _ _ ⟨0, 0, none⟩ (by simp <;> omega), World.cell?_alloc_lt _ _ ⟨0, 0, none⟩ hlt]; exact hg
  have htl : t.block < w.heap.size := by
    rcases Nat.lt_or_ge t.block w.heap.size with h | h
    · exact h
    · simp [World.cell?, Array.getElem?_eq_none h] at ht0
  have el := o_0 ⟨w.heap.size, 0, none⟩ t (((w.alloc (.cells #[.pointer (some t)] 164)).alloc (.cells #[.pointer (some ⟨4, 164, none⟩), .pointer (some ⟨w.heap.size, 0, none⟩), .int .u64 150] 198)).alloc (.cells #[.pointer (some ⟨4, 164, none⟩), .pointer (some ⟨w.heap.size, 0, none⟩), .int .u64 150] 198)) (by rw [World.cell?_alloc_lt _ _ ⟨w.heap.size, 0, none⟩ (by simp; omega)]; simp)
  have st := o_4 t ⟨w.heap.size + 1 + 1 + 1, 0, none⟩ e old ((((w.alloc (.cells #[.pointer (some t)] 164)).alloc (.cells #[.pointer (some ⟨4, 164, none⟩), .pointer (some ⟨w.heap.size, 0, none⟩), .int .u64 150] 198)).alloc (.cells #[.pointer (some ⟨4, 164, none⟩), .pointer (some ⟨w.heap.size, 0, none⟩), .int .u64 150] 198)).alloc (.cells #[.pointer (some e)] 162))
    (by rw [World.cell?_alloc_at _ _ _ _ (by simp)]; rfl)
    (by rw [World.cell?_alloc_lt _ _ t (by simp; omega), World.cell?_alloc_lt _ _ t (by simp; omega), World.cell?_alloc_lt _ _ t (by simp; omega), World.cell?_alloc_lt _ _ t htl]; exact ht0)
    (by rw [World.frozen?_alloc_old _ _ t (by simp; omega), World.frozen?_alloc_old _ _ t (by simp; omega), World.frozen?_alloc_old _ _ t (by simp; omega), World.frozen?_alloc_old _ _ t (Nat.ne_of_lt htl)]; exact hf0)
  go_enter Tryz.func155, Tryz.ntmps155
  go_wp2
  refine wp_loop_rounds 1 ?_
  rw [rounds_succ]
  go_wp2
  go_ret
  exact ⟨rfl, rfl⟩

theorem o_5 {S : List Nat} {v t : Value} {w : World} {o : Option (Int × Int)} (h : a_y 162 w S v o) (ho : o.isSome = false) : j_ Tryz.prog 155 [v, t] w (fun r w' => vB false = r ∧ Below w.heap.size w w') := by
  cases o with
  | some _ => cases ho
  | none =>
  obtain ⟨rfl, _⟩ := h
  exact ⟨(as_nil t w).mono fun e w' ⟨he, hw⟩ => ⟨_, he, rfl, hw ▸ Below.refl _ _⟩⟩
theorem o_6 {S : List Nat} {v : Value} {w : World} {B : Zone} {g : Nat} {o : Option (Int × Int)} {p c : Int} (hG : Gl w B) (h : a_y 162 w S v o) (ho : o = some (p, c)) (hb : Blk w g [.pointer none]) :
    j_ Tryz.prog 155 [v, .iface 164 (.pointer (some ⟨g, 0, none⟩))] w (fun r w' => ∃ ge, vB true = r ∧ Chg (· = g) w w' ∧ Blk w' g [.pointer (some ⟨ge, 0, none⟩)] ∧ Blk w ge [vI p, vI c] ∧ ge ∈ S ∧ inI p ∧ inI c) := by
  subst ho
  obtain ⟨b, rfl, rfl, hbk, hp, hc⟩ := h
  refine ⟨(as_hit ⟨b, 0, none⟩ ⟨g, 0, none⟩ (.pointer none) w (gl_err hG) (hb.at rfl) (hb.free (i := 0) Nat.zero_lt_one)).mono fun e w' ⟨he, hw⟩ => ⟨_, he, b, rfl, ?_, ?_, hbk, List.mem_singleton.2 rfl, hp, hc⟩⟩
  · subst hw; exact as_chg hb
  · subst hw; exact as_blk hb
end
end Go.Vw
