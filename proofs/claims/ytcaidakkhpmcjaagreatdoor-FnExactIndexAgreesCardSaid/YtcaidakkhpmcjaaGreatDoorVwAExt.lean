/- The package-level variables, and the library's functions that are called. -/
import Derived.Test.YtcaidakkhpmcjaaGreatDoorVmA
import Derived.WalkKit
import Derived.LaidEql
import Derived.Stop.Asserts
import Derived.RowKitTokens
import Derived.Test.YtcaidakkhpmcjaaGreatDoorShelf
set_option linter.unusedVariables false
namespace Go.Vw
open Go.RowKit Dat Go.Proofs
/-- What the variables hold. -/
def GD (w:World):Prop:=Lib.TabIs Tryz.prog w "internal/strconv.uint64pow10" .u64 Lib.pow10Tab/\w.cell? ⟨0,0,none⟩=some (.iface 182 (.agg #[.pointer (some ⟨4,116,none⟩)]))
abbrev Gl:World->Zone->Prop:=GlW 4 GD
theorem gl_err {w:World}{B:Zone}(h:Gl w B):w.cell? ⟨0,0,none⟩=some (.iface 182<|.agg #[.pointer (some ⟨4,116,none⟩)]):=h.cell (fun _ h=>h.2) (by decide)
theorem gl_tab {w:World}{B:Zone}(h:Gl w B):Lib.TabIs Tryz.prog w "internal/strconv.uint64pow10" .u64 Lib.pow10Tab:=h.tab (fun _ h=>h.1) (by kernel_rfl:Tryz.prog.globalNamed "internal/strconv.uint64pow10" = some 1) (by decide)
def n_W (w0:World)(B:Zone)(r:Str)(v:Value)(w':World):Prop:=Below w0.heap.size w0 w'/\(fun G=>(Str.v G)=v/\G.b.length<=LEN) r
theorem n_X {B:Zone}{x1:Int}{res:Str}{w0:World}(hm:k_a x1=some res)(H:B<=w0.heap.size)(hG:Gl w0 B)(G:inI x1):i_ Tryz.prog 141 [vI x1] w0 (n_W w0 B res):=by
  obtain rfl:=som hm;exact (p_A<|Tryz.strconv_Itoa x1 (by unfold inI at G;omega) (by unfold inI at G;omega) w0<|gl_tab hG).mono fun v w' h=>⟨h.2,h.1,Nat.le_trans (Lib.itoa_length_le x1 (by unfold inI at G;omega) (by unfold inI at G;omega))<|Nat.le_of_ble_eq_true rfl⟩
section
open Go.Extern.Stop Go.Stop Go.Extern
/-! ### errors.As at one target type (after the kit's worked example) -/
theorem as_nil (t:Value)(w:World):Calls Tryz.prog 80 #[.nilIface,t] w fun e w'=>e = .returned (.bool false)/\w'=w:=by
  go_enter Tryz.func80,Tryz.ntmps80
  go_wp2
  go_ret
  exact ⟨rfl,rfl⟩
theorem n_Y (t:Addr)(w:World):(ReflectliteValue.unpack<|.iface 121<|.pointer<|some t).run Tryz.prog w
    = .ok (.agg #[.pointer (some ⟨4,121,none⟩),.pointer<|some ⟨w.heap.size,0,none⟩,.int .u64 150]) (w.alloc<|.cells #[.pointer (some t)] 121):=by kernel_rfl
theorem n_Z (a:Addr)(w:World):(ReflectliteValue.methodAny (ReflectliteValue.valueError "reflectlite.Value.Type" 0) (fun t _ _ _=>ReflectliteType.toType t) #[.agg #[.pointer (some ⟨4,121,none⟩),.pointer (some a),.int .u64 150]]).run Tryz.prog w
    = .ok (.iface 182<|.agg #[.pointer (some ⟨4,121,none⟩)]) w:=by kernel_rfl
theorem o_0 (h:Value)(w:World):(Go.method 342 182 (.agg #[h]) "Kind").run Tryz.prog w = .ok (185,h) w:=by kernel_rfl
theorem o_1 (w:World):((ReflectliteType.abiMethod fun t=>Functor.map (fun a:Nat=>Value.int IntKind.u8 (a:Int))<|Rtype.kind t) #[.pointer (some ⟨4,121,none⟩)]).run Tryz.prog w = .ok (.int .u8 22) w:=by kernel_rfl
theorem o_2 (w:World):((ReflectliteType.abiMethod fun t=>Functor.map (fun a:Nat=>Value.int IntKind.u8 (a:Int))<|Rtype.kind t) #[.pointer (some ⟨4,119,none⟩)]).run Tryz.prog w = .ok (.int .u8 22) w:=by kernel_rfl
theorem l_c (z:Sem Value)(f:TypeId->Addr->Nat->Nat->Sem Value)(v:Value) :
    ReflectliteValue.method z f #[v]=(do match ← ReflectliteValue.parts v with | none=>z | some (t,a,fl)=>f t a fl<|fl % 32):=rfl
theorem l_d (a:Addr)(w:World):(ReflectliteValue.parts<|.agg #[.pointer (some ⟨4,121,none⟩),.pointer<|some a,.int .u64 150]).run Tryz.prog w = .ok (some (121,a,150)) w:=by kernel_rfl
theorem o_3 (a p:Addr)(W:World)(ha:W.cell? a=some (.pointer<|some p)) :
    (ReflectliteValue.method (ReflectliteValue.valueError "reflectlite.Value.IsNil" 0) ReflectliteValue.isNil #[.agg #[.pointer (some ⟨4,121,none⟩),.pointer (some a),.int .u64 150]]).run Tryz.prog W = .ok (.bool false) W:=by
  rw [l_c]
  simp only [Sem.run_bind,l_d,Result.andThen]
  simp [ReflectliteValue.isNil,loadVar,isAgg,underlying,Tryz.underlying121,ha,Result.andThen]
theorem o_4 (h:Value)(w:World):(Go.method 342 182 (.agg #[h]) "Elem").run Tryz.prog w = .ok (195,.agg #[h]) w:=by kernel_rfl
theorem o_5 (h:Value)(w:World):(Go.method 342 182 (.agg #[h]) "Implements").run Tryz.prog w = .ok (196,.agg #[h]) w:=by kernel_rfl
theorem o_6 (h:Value)(w:World):(Go.method 342 182 (.agg #[h]) "AssignableTo").run Tryz.prog w = .ok (193,.agg #[h]) w:=by kernel_rfl
theorem o_7 (w:World):(ReflectliteType.method ReflectliteType.elem #[.agg #[.pointer (some ⟨4,121,none⟩)]]).run Tryz.prog w = .ok (.iface 182<|.agg #[.pointer (some ⟨4,119,none⟩)]) w:=by kernel_rfl
theorem o_8 (w:World):(ReflectliteType.relation "Implements" ReflectliteType.implements_ #[.agg #[.pointer (some ⟨4,119,none⟩)],.iface 182 (.agg #[.pointer (some ⟨4,116,none⟩)])]).run Tryz.prog w = .ok (.bool true) w:=by kernel_rfl
theorem o_9 (v:Value)(w:World):(ReflectliteType.typeOf #[.iface 119 v]).run Tryz.prog w = .ok (.iface 182<|.agg #[.pointer (some ⟨4,119,none⟩)]) w:=by kernel_rfl
theorem o_a (w:World):(ReflectliteType.relation "AssignableTo" ReflectliteType.assignableTo #[.agg #[.pointer (some ⟨4,119,none⟩)],.iface 182 (.agg #[.pointer (some ⟨4,119,none⟩)])]).run Tryz.prog w = .ok (.bool true) w:=by kernel_rfl
theorem o_b (e:Addr)(w:World):(ReflectliteValue.unpack<|.iface 119<|.pointer<|some e).run Tryz.prog w
    = .ok (.agg #[.pointer (some ⟨4,119,none⟩),.pointer<|some ⟨w.heap.size,0,none⟩,.int .u64 150]) (w.alloc<|.cells #[.pointer (some e)] 119):=by kernel_rfl
theorem o_c (w:World):(Rtype.elem? 121).run Tryz.prog w = .ok (some 119) w:=by kernel_rfl
theorem o_d (p:Addr)(w:World):(ReflectliteValue.mk 119 p ReflectliteValue.flagAddr).run Tryz.prog w = .ok (.agg #[.pointer (some ⟨4,119,none⟩),.pointer<|some p,.int .u64 406]) w:=by kernel_rfl
theorem o_e (a p:Addr)(W:World)(ha:W.cell? a=some (.pointer<|some p)) :
    (ReflectliteValue.method (ReflectliteValue.valueError "reflectlite.Value.Elem" 0) ReflectliteValue.elem #[.agg #[.pointer (some ⟨4,121,none⟩),.pointer (some a),.int .u64 150]]).run Tryz.prog W
      = .ok (.agg #[.pointer (some ⟨4,119,none⟩),.pointer<|some p,.int .u64 406]) W:=by
  rw [l_c]
  simp only [Sem.run_bind,l_d,Result.andThen]
  simp [ReflectliteValue.elem,loadVar,isAgg,underlying,Tryz.underlying121,ha,Result.andThen,o_c,o_d]
theorem as_rls (v x:Value):ReflectliteValue.set #[v,x]=(do
    let (some (dst,a,fl),some (src,b,_)):=(← ReflectliteValue.parts v,← ReflectliteValue.parts x)
      | unsupported (.noEntry "extern/(internal/reflectlite.Value).Set.zeroValue")
    if fl / ReflectliteValue.flagAddr % 2==0 then unsupported (.noEntry "extern/(internal/reflectlite.Value).Set.unaddressable")
    let val ← loadVar src b
    if ← Rtype.directlyAssignable dst src then storeVar dst a val
    else if ← Rtype.implements dst src then
      if (← Rtype.kind src)==20 then
        match val with
        | .nilIface=>unsupported (.noEntry "extern/reflectlite: a nil value of one interface type handed on as a value of another")
        | _=>storeVar dst a val
      else storeVar dst a (.iface src val)
    else panicString ("reflectlite.Set: value of type " ++ (← Rtype.spelt src) ++ " is not assignable to type " ++ (← Rtype.spelt dst))
    pure (.tuple #[])):=rfl
theorem o_f (a:Addr)(w:World):(ReflectliteValue.parts<|.agg #[.pointer (some ⟨4,119,none⟩),.pointer<|some a,.int .u64 406]).run Tryz.prog w = .ok (some (119,a,406)) w:=by kernel_rfl
theorem o_g (a:Addr)(w:World):(ReflectliteValue.parts<|.agg #[.pointer (some ⟨4,119,none⟩),.pointer<|some a,.int .u64 150]).run Tryz.prog w = .ok (some (119,a,150)) w:=by kernel_rfl
theorem o_h (w:World):(Rtype.directlyAssignable 119 119).run Tryz.prog w = .ok true w:=by kernel_rfl
theorem as_size25 (w:World):(sizeOf 119).run Tryz.prog w = .ok 1 w:=by kernel_rfl
theorem o_i (ta b e:Addr)(old:Value)(W:World)(hb:W.cell? b=some (.pointer<|some e))(ht:W.cell? ta=some old)(hf:W.frozen? ta=false) :
    (ReflectliteValue.set #[.agg #[.pointer (some ⟨4,119,none⟩),.pointer<|some ta,.int .u64 406],.agg #[.pointer (some ⟨4,119,none⟩),.pointer<|some b,.int .u64 150]]).run Tryz.prog W
      = .ok (.tuple #[]) (W.setCell ta<|.pointer<|some e):=by
  rw [as_rls]
  simp only [Sem.run_bind,o_f,o_g,Result.andThen]
  simp [ReflectliteValue.flagAddr,loadVar,isAgg,underlying,Tryz.underlying119,hb,Result.andThen,o_h,storeVar,Value.cells,storeCells,Addr.add]
  rw [run_store Tryz.prog W ta _ _ (by rfl)]
  simp [ht,hf]
set_option maxHeartbeats 4000000 in
theorem as_hit (e t:Addr)(old:Value)(w:World)(hg:w.cell? ⟨0,0,none⟩=some (.iface 182<|.agg #[.pointer (some ⟨4,116,none⟩)]))(G:w.cell? t=some old)(H:w.frozen? t=false) :
    Calls Tryz.prog 80 #[.iface 119 (.pointer<|some e),.iface 121<|.pointer<|some t] w fun ev w'=>ev = .returned (.bool true)/\w'=((((w.alloc<|.cells #[.pointer (some t)] 121).alloc (.cells #[.pointer (some ⟨4,121,none⟩),.pointer<|some ⟨w.heap.size,0,none⟩,.int .u64 150] 154)).alloc (.cells #[.pointer (some ⟨4,121,none⟩),.pointer<|some ⟨w.heap.size,0,none⟩,.int .u64 150] 154)).alloc (.cells #[.pointer (some e)] 119)).setCell t (.pointer<|some e):=by
  have h6:=@run_callFunc_extern Tryz.prog 113 _ (fun args=>ReflectliteValue.unpack (args.getD 0 (.tuple #[]))) Tryz.func113 (by kernel_rfl) (by kernel_rfl) (by kernel_rfl) (by kernel_rfl);have h7:=@run_callFunc_extern Tryz.prog 114 _ (ReflectliteValue.methodAny (ReflectliteValue.valueError "reflectlite.Value.Type" 0) (fun t _ _ _=>ReflectliteType.toType t)) Tryz.func114 (by kernel_rfl) (by kernel_rfl) (by kernel_rfl) (by kernel_rfl)
  have h8:=@run_callFunc_extern Tryz.prog 115 _ (ReflectliteValue.method (ReflectliteValue.valueError "reflectlite.Value.IsNil" 0) ReflectliteValue.isNil) Tryz.func115 (by kernel_rfl) (by kernel_rfl) (by kernel_rfl) (by kernel_rfl)
  have I:=@run_callFunc_extern Tryz.prog 185 _ (ReflectliteType.abiMethod fun t=>do pure (.int .u8 (← Rtype.kind t))) Tryz.func185 (by kernel_rfl) (by kernel_rfl) (by kernel_rfl) (by kernel_rfl);have J:=@run_callFunc_extern Tryz.prog 195 _ (ReflectliteType.method ReflectliteType.elem) Tryz.func195 (by kernel_rfl) (by kernel_rfl) (by kernel_rfl) (by kernel_rfl);have L:=@run_callFunc_extern Tryz.prog 196 _ (ReflectliteType.relation "Implements" ReflectliteType.implements_) Tryz.func196 (by kernel_rfl) (by kernel_rfl) (by kernel_rfl) (by kernel_rfl)
  have O:=@run_callFunc_extern Tryz.prog 145 _ ReflectliteType.typeOf Tryz.func145 (by kernel_rfl) (by kernel_rfl) (by kernel_rfl) (by kernel_rfl);have V:=@run_callFunc_extern Tryz.prog 193 _ (ReflectliteType.relation "AssignableTo" ReflectliteType.assignableTo) Tryz.func193 (by kernel_rfl) (by kernel_rfl) (by kernel_rfl) (by kernel_rfl)
  have W:=@run_callFunc_extern Tryz.prog 146 _ (ReflectliteValue.method (ReflectliteValue.valueError "reflectlite.Value.Elem" 0) ReflectliteValue.elem) Tryz.func146 (by kernel_rfl) (by kernel_rfl) (by kernel_rfl) (by kernel_rfl)
  have Y:=@run_callFunc_extern Tryz.prog 147 _ ReflectliteValue.set Tryz.func147 (by kernel_rfl) (by kernel_rfl) (by kernel_rfl) (by kernel_rfl);have tO:=o_9;have mA:=o_6;have a0:=o_a;have a1:=o_b;have f6:=n_Y;have f7:=n_Z;have mK:=o_0;have mE:=o_4;have mI:=o_5;have a2:=o_1;have a3:=o_2;have a4:=o_7;have a5:=o_8;have n8:=o_3 ⟨w.heap.size,0,none⟩ t ((w.alloc<|.cells #[.pointer (some t)] 121).alloc (.cells #[.pointer (some ⟨4,121,none⟩),.pointer<|some ⟨w.heap.size,0,none⟩,.int .u64 150] 154)) (by simp);have hlt:0<w.heap.size:=World.block_lt_of_cell? w _ hg
  have a6:((w.alloc<|.cells #[.pointer (some t)] 121).alloc (.cells #[.pointer (some ⟨4,121,none⟩),.pointer<|some ⟨w.heap.size,0,none⟩,.int .u64 150] 154)).cell? ⟨0,0,none⟩=some (.iface 182<|.agg #[.pointer (some ⟨4,116,none⟩)]):=by
    rw [World.cell?_alloc_lt _ _ ⟨0,0,none⟩ (by simp <;> omega),World.cell?_alloc_lt _ _ ⟨0,0,none⟩ hlt];exact hg
  have htl:t.block<w.heap.size:=by
    rcases Nat.lt_or_ge t.block w.heap.size with h | h
    · exact h
    · simp [World.cell?,Array.getElem?_eq_none h] at G
  have el:=o_e ⟨w.heap.size,0,none⟩ t (((w.alloc<|.cells #[.pointer (some t)] 121).alloc (.cells #[.pointer (some ⟨4,121,none⟩),.pointer<|some ⟨w.heap.size,0,none⟩,.int .u64 150] 154)).alloc (.cells #[.pointer (some ⟨4,121,none⟩),.pointer<|some ⟨w.heap.size,0,none⟩,.int .u64 150] 154)) (by rw [World.cell?_alloc_lt _ _ ⟨w.heap.size,0,none⟩ (by simp;omega)];simp)
  have st:=o_i t ⟨w.heap.size+1+1+1,0,none⟩ e old ((((w.alloc<|.cells #[.pointer (some t)] 121).alloc (.cells #[.pointer (some ⟨4,121,none⟩),.pointer<|some ⟨w.heap.size,0,none⟩,.int .u64 150] 154)).alloc (.cells #[.pointer (some ⟨4,121,none⟩),.pointer<|some ⟨w.heap.size,0,none⟩,.int .u64 150] 154)).alloc (.cells #[.pointer (some e)] 119))
    (by rw [World.cell?_alloc_at _ _ _ _ (by simp)];rfl)
    (by rw [World.cell?_alloc_lt _ _ t (by simp;omega),World.cell?_alloc_lt _ _ t (by simp;omega),World.cell?_alloc_lt _ _ t (by simp;omega),World.cell?_alloc_lt _ _ t htl];exact G)
    (by rw [World.frozen?_alloc_old _ _ t (by simp;omega),World.frozen?_alloc_old _ _ t (by simp;omega),World.frozen?_alloc_old _ _ t (by simp;omega),World.frozen?_alloc_old _ _ t<|Nat.ne_of_lt htl];exact H)
  go_enter Tryz.func80,Tryz.ntmps80
  go_wp2
  refine wp_loop_rounds 1 ?_
  rw [rounds_succ]
  go_wp2
  go_ret
  exact ⟨rfl,rfl⟩
theorem o_j {S:List Nat}{v t:Value}{w:World}{o:Option (Int×Int)}(h:a_A 119 w S v o)(ho:o.isSome=false):i_ Tryz.prog 80 [v,t] w (fun r w'=>vB false=r/\Below w.heap.size w w'):=by
  cases o with
  | some _=>cases ho
  | none =>
  obtain ⟨rfl,_⟩:=h;exact ⟨(as_nil t w).mono fun e w' ⟨he,hw⟩=>⟨_,he,rfl,hw ▸ Below.refl _ _⟩⟩
theorem o_k {S:List Nat}{v:Value}{w:World}{B:Zone}{g:Nat}{o:Option (Int×Int)}{p c:Int}(hG:Gl w B)(h:a_A 119 w S v o)(ho:o=some (p,c))(hb:Blk w g [.pointer none]) :
    i_ Tryz.prog 80 [v,.iface 121<|.pointer<|some ⟨g,0,none⟩] w (fun r w'=>∃ge,vB true=r/\Chg (· = g) w w'/\Blk w' g [.pointer (some ⟨ge,0,none⟩)]/\Blk w ge [vI p,vI c]/\ge∈S/\inI p/\inI c):=by
  subst ho;obtain ⟨b,rfl,rfl,hbk,hp,hc⟩:=h;refine ⟨(as_hit ⟨b,0,none⟩ ⟨g,0,none⟩ (.pointer none) w (gl_err hG) (hb.at rfl)<|hb.free (i:=0) Nat.zero_lt_one).mono fun e w' ⟨he,hw⟩=>⟨_,he,b,rfl,?_,?_,hbk,List.mem_singleton.2 rfl,hp,hc⟩⟩
  · subst hw;exact as_chg hb
  · subst hw;exact as_blk hb
end
end Go.Vw
