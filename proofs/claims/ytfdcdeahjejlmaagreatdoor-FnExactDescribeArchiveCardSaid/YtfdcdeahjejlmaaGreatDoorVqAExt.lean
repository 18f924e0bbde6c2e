/- The package-level variables, and the library's functions that are called. -/
import Derived.Test.YtfdcdeahjejlmaaGreatDoorVqGl
import Derived.WalkKit
import Derived.LaidEql
import Derived.Stop.Asserts
import Derived.RowKitTokens
import Derived.Test.YtfdcdeahjejlmaaGreatDoorShelf
set_option linter.unusedVariables false
namespace Go.Vw
open Go.RowKit Dat Go.Proofs
/-- What the variables hold. -/
def GD (w : World) : Prop := Lib.TabIs Tryz.prog w "internal/strconv.uint64pow10" .u64 Lib.pow10Tab ∧ w.cell? ⟨0, 0, none⟩ = some (.iface 219 (.agg #[.pointer (some ⟨4, 159, none⟩)]))
abbrev Gl : World → Zone → Prop := GlW 4 GD
theorem gl_err {w : World} {B : Zone} (h : Gl w B) : w.cell? ⟨0, 0, none⟩ = some (.iface 219 (.agg #[.pointer (some ⟨4, 159, none⟩)])) := h.cell (fun _ h => h.2) (by decide)
theorem gl_tab {w : World} {B : Zone} (h : Gl w B) : Lib.TabIs Tryz.prog w "internal/strconv.uint64pow10" .u64 Lib.pow10Tab := h.tab (fun _ h => h.1) (by kernel_rfl : Tryz.prog.globalNamed "internal/strconv.uint64pow10" = some 1) (by decide)
def n_f (w0 : World) (B : Zone) (r : Str) (v : Value) (w' : World) : Prop := Below w0.heap.size w0 w' ∧ (fun r1 => (Str.v r1) = v ∧ r1.b.length ≤ LEN) r
theorem n_g {B : Zone} {x1 : Int} {res : Str} {w0 : World} (hm : j_q x1 = some res) (hBw : B ≤ w0.heap.size) (hG : Gl w0 B) (p1_0 : inI x1) : j_ Tryz.prog 95 [vI x1] w0 (n_f w0 B res) := by
  obtain rfl := som hm
  exact (o_Z (Tryz.strconv_Itoa x1 (by unfold inI at p1_0; omega) (by unfold inI at p1_0; omega) w0 (gl_tab hG))).mono fun v w' h => ⟨h.2, h.1, Nat.le_trans (Lib.itoa_length_le x1 (by unfold inI at p1_0; omega) (by unfold inI at p1_0; omega)) (Nat.le_of_ble_eq_true rfl)⟩

section
open Go.Extern.Stop Go.Stop Go.Extern
/-! ### errors.As at one target type (after the kit's worked example) -/
theorem as_nil (t : Value) (w : World) : Calls Tryz.prog 155 #[.nilIface, t] w fun e w' => e = .returned (.bool false) ∧ w' = w := by
  go_enter Tryz.func155, Tryz.ntmps155
  go_wp2
  go_ret
  exact ⟨rfl, rfl⟩
theorem n_h (t : Addr) (w : World) : (ReflectliteValue.unpack (.iface 164 (.pointer (some t)))).run Tryz.prog w
    = .ok (.agg #[.pointer (some ⟨4, 164, none⟩), .pointer (some ⟨w.heap.size, 0, none⟩), .int .u64 150]) (w.alloc (.cells #[.pointer (some t)] 164)) := by kernel_rfl
theorem n_i (a : Addr) (w : World) : (ReflectliteValue.methodAny (ReflectliteValue.valueError "reflectlite.Value.Type" 0) (fun t _ _ _ => ReflectliteType.toType t) #[.agg #[.pointer (some ⟨4, 164, none⟩), .pointer (some a), .int .u64 150]]).run Tryz.prog w
    = .ok (.iface 219 (.agg #[.pointer (some ⟨4, 164, none⟩)])) w := by kernel_rfl
theorem n_j (h : Value) (w : World) : (Go.method 364 219 (.agg #[h]) "Kind").run Tryz.prog w = .ok (224, h) w := by kernel_rfl
theorem n_k (w : World) : ((ReflectliteType.abiMethod fun t => Functor.map (fun a : Nat => Value.int IntKind.u8 (a : Int)) (Rtype.kind t)) #[.pointer (some ⟨4, 164, none⟩)]).run Tryz.prog w = .ok (.int .u8 22) w := by kernel_rfl
theorem n_l (w : World) : ((ReflectliteType.abiMethod fun t => Functor.map (fun a : Nat => Value.int IntKind.u8 (a : Int)) (Rtype.kind t)) #[.pointer (some ⟨4, 162, none⟩)]).run Tryz.prog w = .ok (.int .u8 22) w := by kernel_rfl
theorem k_v (z : Sem Value) (f : TypeId → Addr → Nat → Nat → Sem Value) (v : Value) :
    ReflectliteValue.method z f #[v] = (do match ← ReflectliteValue.parts v with | none => z | some (t, a, fl) => f t a fl (fl % 32)) := rfl
theorem k_w (a : Addr) (w : World) : (ReflectliteValue.parts (.agg #[.pointer (some ⟨4, 164, none⟩), .pointer (some a), .int .u64 150])).run Tryz.prog w = .ok (some (164, a, 150)) w := by kernel_rfl
theorem n_m (a p : Addr) (W : World) (ha : W.cell? a = some (.pointer (some p))) :
    (ReflectliteValue.method (ReflectliteValue.valueError "reflectlite.Value.IsNil" 0) ReflectliteValue.isNil #[.agg #[.pointer (some ⟨4, 164, none⟩), .pointer (some a), .int .u64 150]]).run Tryz.prog W = .ok (.bool false) W := by
  rw [k_v]
  simp only [Sem.run_bind, k_w, Result.andThen]
  simp [ReflectliteValue.isNil, loadVar, isAgg, underlying, Tryz.underlying164, ha, Result.andThen]
theorem n_n (h : Value) (w : World) : (Go.method 364 219 (.agg #[h]) "Elem").run Tryz.prog w = .ok (234, .agg #[h]) w := by kernel_rfl
theorem n_o (h : Value) (w : World) : (Go.method 364 219 (.agg #[h]) "Implements").run Tryz.prog w = .ok (235, .agg #[h]) w := by kernel_rfl
theorem n_p (h : Value) (w : World) : (Go.method 364 219 (.agg #[h]) "AssignableTo").run Tryz.prog w = .ok (232, .agg #[h]) w := by kernel_rfl
theorem n_q (w : World) : (ReflectliteType.method ReflectliteType.elem #[.agg #[.pointer (some ⟨4, 164, none⟩)]]).run Tryz.prog w = .ok (.iface 219 (.agg #[.pointer (some ⟨4, 162, none⟩)])) w := by kernel_rfl
theorem n_r (w : World) : (ReflectliteType.relation "Implements" ReflectliteType.implements_ #[.agg #[.pointer (some ⟨4, 162, none⟩)], .iface 219 (.agg #[.pointer (some ⟨4, 159, none⟩)])]).run Tryz.prog w = .ok (.bool true) w := by kernel_rfl
theorem n_s (v : Value) (w : World) : (ReflectliteType.typeOf #[.iface 162 v]).run Tryz.prog w = .ok (.iface 219 (.agg #[.pointer (some ⟨4, 162, none⟩)])) w := by kernel_rfl
theorem n_t (w : World) : (ReflectliteType.relation "AssignableTo" ReflectliteType.assignableTo #[.agg #[.pointer (some ⟨4, 162, none⟩)], .iface 219 (.agg #[.pointer (some ⟨4, 162, none⟩)])]).run Tryz.prog w = .ok (.bool true) w := by kernel_rfl
theorem n_u (e : Addr) (w : World) : (ReflectliteValue.unpack (.iface 162 (.pointer (some e)))).run Tryz.prog w
    = .ok (.agg #[.pointer (some ⟨4, 162, none⟩), .pointer (some ⟨w.heap.size, 0, none⟩), .int .u64 150]) (w.alloc (.cells #[.pointer (some e)] 162)) := by kernel_rfl
theorem n_v (w : World) : (Rtype.elem? 164).run Tryz.prog w = .ok (some 162) w := by kernel_rfl
theorem n_w (p : Addr) (w : World) : (ReflectliteValue.mk 162 p ReflectliteValue.flagAddr).run Tryz.prog w = .ok (.agg #[.pointer (some ⟨4, 162, none⟩), .pointer (some p), .int .u64 406]) w := by kernel_rfl
theorem n_x (a p : Addr) (W : World) (ha : W.cell? a = some (.pointer (some p))) :
    (ReflectliteValue.method (ReflectliteValue.valueError "reflectlite.Value.Elem" 0) ReflectliteValue.elem #[.agg #[.pointer (some ⟨4, 164, none⟩), .pointer (some a), .int .u64 150]]).run Tryz.prog W
      = .ok (.agg #[.pointer (some ⟨4, 162, none⟩), .pointer (some p), .int .u64 406]) W := by
  rw [k_v]
  simp only [Sem.run_bind, k_w, Result.andThen]
  simp [ReflectliteValue.elem, loadVar, isAgg, underlying, Tryz.underlying164, ha, Result.andThen, n_v, n_w]
theorem as_rls (v x : Value) : ReflectliteValue.set #[v, x] = (do
    let (some (dst, a, fl), some (src, b, _)) := (← ReflectliteValue.parts v, ← ReflectliteValue.parts x)
      | unsupported (.noEntry "extern/(internal/reflectlite.Value).Set.zeroValue")
    if fl / ReflectliteValue.flagAddr % 2 == 0 then unsupported (.noEntry "extern/(internal/reflectlite.Value).Set.unaddressable")
    let val ← loadVar src b
    if ← Rtype.directlyAssignable dst src then storeVar dst a val
    else if ← Rtype.implements dst src then
      if (← Rtype.kind src) == 20 then
        match val with
        | .nilIface => unsupported (.noEntry "extern/reflectlite: a nil value of one interface type handed on as a value of another")
        | _ => storeVar dst a val
      else storeVar dst a (.iface src val)
    else panicString ("reflectlite.Set: value of type " ++ (← Rtype.spelt src) ++ " is not assignable to type " ++ (← Rtype.spelt dst))
    pure (.tuple #[])) := rfl
theorem n_y (a : Addr) (w : World) : (ReflectliteValue.parts (.agg #[.pointer (some ⟨4, 162, none⟩), .pointer (some a), .int .u64 406])).run Tryz.prog w = .ok (some (162, a, 406)) w := by kernel_rfl
theorem n_z (a : Addr) (w : World) : (ReflectliteValue.parts (.agg #[.pointer (some ⟨4, 162, none⟩), .pointer (some a), .int .u64 150])).run Tryz.prog w = .ok (some (162, a, 150)) w := by kernel_rfl
theorem n_A (w : World) : (Rtype.directlyAssignable 162 162).run Tryz.prog w = .ok true w := by kernel_rfl
theorem as_size25 (w : World) : (sizeOf 162).run Tryz.prog w = .ok 1 w := by kernel_rfl
theorem n_B (ta b e : Addr) (old : Value) (W : World) (hb : W.cell? b = some (.pointer (some e))) (ht : W.cell? ta = some old) (hf : W.frozen? ta = false) :
    (ReflectliteValue.set #[.agg #[.pointer (some ⟨4, 162, none⟩), .pointer (some ta), .int .u64 406], .agg #[.pointer (some ⟨4, 162, none⟩), .pointer (some b), .int .u64 150]]).run Tryz.prog W
      = .ok (.tuple #[]) (W.setCell ta (.pointer (some e))) := by
  rw [as_rls]
  simp only [Sem.run_bind, n_y, n_z, Result.andThen]
  simp [ReflectliteValue.flagAddr, loadVar, isAgg, underlying, Tryz.underlying162, hb, Result.andThen, n_A, storeVar, Value.cells, storeCells, Addr.add]
  rw [run_store Tryz.prog W ta _ _ (by rfl)]
  simp [ht, hf]

set_option maxHeartbeats 4000000 in
theorem as_hit (e t : Addr) (old : Value) (w : World) (hg : w.cell? ⟨0, 0, none⟩ = some (.iface 219 (.agg #[.pointer (some ⟨4, 159, none⟩)]))) (ht0 : w.cell? t = some old) (hf0 : w.frozen? t = false) :
    Calls Tryz.prog 155 #[.iface 162 (.pointer (some e)), .iface 164 (.pointer (some t))] w fun ev w' => ev = .returned (.bool true) ∧ w' = ((((w.alloc (.cells #[.pointer (some t)] 164)).alloc (.cells #[.pointer (some ⟨4, 164, none⟩), .pointer (some ⟨w.heap.size, 0, none⟩), .int .u64 150] 198)).alloc (.cells #[.pointer (some ⟨4, 164, none⟩), .pointer (some ⟨w.heap.size, 0, none⟩), .int .u64 150] 198)).alloc (.cells #[.pointer (some e)] 162)).setCell t (.pointer (some e)) := by
  have h6 := @run_callFunc_extern Tryz.prog 191 _ (fun args => ReflectliteValue.unpack (args.getD 0 (.tuple #[]))) Tryz.func191 (by kernel_rfl) (by kernel_rfl) (by kernel_rfl) (by kernel_rfl)
  have h7 := @run_callFunc_extern Tryz.prog 192 _ (ReflectliteValue.methodAny (ReflectliteValue.valueError "reflectlite.Value.Type" 0) (fun t _ _ _ => ReflectliteType.toType t)) Tryz.func192 (by kernel_rfl) (by kernel_rfl) (by kernel_rfl) (by kernel_rfl)
  have h8 := @run_callFunc_extern Tryz.prog 193 _ (ReflectliteValue.method (ReflectliteValue.valueError "reflectlite.Value.IsNil" 0) ReflectliteValue.isNil) Tryz.func193 (by kernel_rfl) (by kernel_rfl) (by kernel_rfl) (by kernel_rfl)
  have h27 := @run_callFunc_extern Tryz.prog 224 _ (ReflectliteType.abiMethod fun t => do pure (.int .u8 (← Rtype.kind t))) Tryz.func224 (by kernel_rfl) (by kernel_rfl) (by kernel_rfl) (by kernel_rfl)
  have h37 := @run_callFunc_extern Tryz.prog 234 _ (ReflectliteType.method ReflectliteType.elem) Tryz.func234 (by kernel_rfl) (by kernel_rfl) (by kernel_rfl) (by kernel_rfl)
  have h38 := @run_callFunc_extern Tryz.prog 235 _ (ReflectliteType.relation "Implements" ReflectliteType.implements_) Tryz.func235 (by kernel_rfl) (by kernel_rfl) (by kernel_rfl) (by kernel_rfl)
  have h10 := @run_callFunc_extern Tryz.prog 205 _ ReflectliteType.typeOf Tryz.func205 (by kernel_rfl) (by kernel_rfl) (by kernel_rfl) (by kernel_rfl)
  have h35 := @run_callFunc_extern Tryz.prog 232 _ (ReflectliteType.relation "AssignableTo" ReflectliteType.assignableTo) Tryz.func232 (by kernel_rfl) (by kernel_rfl) (by kernel_rfl) (by kernel_rfl)
  have h11 := @run_callFunc_extern Tryz.prog 206 _ (ReflectliteValue.method (ReflectliteValue.valueError "reflectlite.Value.Elem" 0) ReflectliteValue.elem) Tryz.func206 (by kernel_rfl) (by kernel_rfl) (by kernel_rfl) (by kernel_rfl)
  have h12 := @run_callFunc_extern Tryz.prog 207 _ ReflectliteValue.set Tryz.func207 (by kernel_rfl) (by kernel_rfl) (by kernel_rfl) (by kernel_rfl)
  have tO := n_s
  have mA := n_p
  have a25 := n_t
  have v25 := n_u
  have f6 := n_h
  have f7 := n_i
  have mK := n_j
  have mE := n_n
  have mI := n_o
  have k27 := n_k
  have k25 := n_l
  have e27 := n_q
  have i25 := n_r
  have n8 := n_m ⟨w.heap.size, 0, none⟩ t ((w.alloc (.cells #[.pointer (some t)] 164)).alloc (.cells #[.pointer (some ⟨4, 164, none⟩), .pointer (some ⟨w.heap.size, 0, none⟩), .int .u64 150] 198)) (by simp)
  have hlt : 0 < w.heap.size := World.block_lt_of_cell? w _ hg
  have hg2 : ((w.alloc (.cells #[.pointer (some t)] 164)).alloc (.cells #[.pointer (some ⟨4, 164, none⟩), .pointer (some ⟨w.heap.size, 0, none⟩), .int .u64 150] 198)).cell? ⟨0, 0, none⟩ = some (.iface 219 (.agg #[.pointer (some ⟨4, 159, none⟩)])) := by
    rw [World.cell?_alloc_lt _ _ ⟨0, 0, none⟩ (by simp <;> omega), World.cell?_alloc_lt _ _ ⟨0, 0, none⟩ hlt]; exact hg
  have htl : t.block < w.heap.size := by
    rcases Nat.lt_or_ge t.block w.heap.size with h | h
    · exact h
    · simp [World.cell?, Array.getElem?_eq_none h] at ht0
  have el := n_x ⟨w.heap.size, 0, none⟩ t (((w.alloc (.cells #[.pointer (some t)] 164)).alloc (.cells #[.pointer (some ⟨4, 164, none⟩), .pointer (some ⟨w.heap.size, 0, none⟩), .int .u64 150] 198)).alloc (.cells #[.pointer (some ⟨4, 164, none⟩), .pointer (some ⟨w.heap.size, 0, none⟩), .int .u64 150] 198)) (by rw [World.cell?_alloc_lt _ _ ⟨w.heap.size, 0, none⟩ (by simp; omega)]; simp)
  have st := n_B t ⟨w.heap.size + 1 + 1 + 1, 0, none⟩ e old ((((w.alloc (.cells #[.pointer (some t)] 164)).alloc (.cells #[.pointer (some ⟨4, 164, none⟩), .pointer (some ⟨w.heap.size, 0, none⟩), .int .u64 150] 198)).alloc (.cells #[.pointer (some ⟨4, 164, none⟩), .pointer (some ⟨w.heap.size, 0, none⟩), .int .u64 150] 198)).alloc (.cells #[.pointer (some e)] 162))
    (by rw [World.cell?_alloc_at _ _ _ _ (by simp)]; rfl)
    (by rw [World.cell?_alloc_lt _ _ t (by simp; omega), World.cell?_alloc_lt _ _ t (by simp; omega), World.cell?_alloc_lt _ _ t (by simp; omega), World.cell?_alloc_lt _ _ t htl]; exact ht0)
    (by rw [World.frozen?_alloc_old _ _ t (by simp; omega), World.frozen?_alloc_old _ _ t (by simp; omega), World.frozen?_alloc_old _ _ t (by simp; omega), World.frozen?_alloc_old _ _ t (Nat.ne_of_lt htl)]; exact hf0)
  go_enter Tryz.func155, Tryz.ntmps155
  go_wp2
  refine wp_loop_rounds 1 ?_
  rw [rounds_succ]
  go_wp2
  go_ret
  exact ⟨rfl, rfl⟩

theorem n_C {S : List Nat} {v t : Value} {w : World} {o : Option (Int × Int)} (h : a_k 162 w S v o) (ho : o.isSome = false) : j_ Tryz.prog 155 [v, t] w (fun r w' => vB false = r ∧ Below w.heap.size w w') := by
  cases o with
  | some _ => cases ho
  | none =>
  obtain ⟨rfl, _⟩ := h
  exact ⟨(as_nil t w).mono fun e w' ⟨he, hw⟩ => ⟨_, he, rfl, hw ▸ Below.refl _ _⟩⟩
theorem n_D {S : List Nat} {v : Value} {w : World} {B : Zone} {g : Nat} {o : Option (Int × Int)} {p c : Int} (hG : Gl w B) (h : a_k 162 w S v o) (ho : o = some (p, c)) (hb : Blk w g [.pointer none]) :
    j_ Tryz.prog 155 [v, .iface 164 (.pointer (some ⟨g, 0, none⟩))] w (fun r w' => ∃ ge, vB true = r ∧ Chg (· = g) w w' ∧ Blk w' g [.pointer (some ⟨ge, 0, none⟩)] ∧ Blk w ge [vI p, vI c] ∧ ge ∈ S ∧ inI p ∧ inI c) := by
  subst ho
  obtain ⟨b, rfl, rfl, hbk, hp, hc⟩ := h
  refine ⟨(as_hit ⟨b, 0, none⟩ ⟨g, 0, none⟩ (.pointer none) w (gl_err hG) (hb.at rfl) (hb.free (i := 0) Nat.zero_lt_one)).mono fun e w' ⟨he, hw⟩ => ⟨_, he, b, rfl, ?_, ?_, hbk, List.mem_singleton.2 rfl, hp, hc⟩⟩
  · subst hw; exact as_chg hb
  · subst hw; exact as_blk hb
end
end Go.Vw
