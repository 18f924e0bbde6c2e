/- The package-level variables, and the library's functions that are called. -/
import Derived.Test.YtnncfaaebnkcbaaGreatDoorVmA
import Derived.WalkKit
import Derived.LaidEql
import Derived.Stop.Asserts
import Derived.RowKitTokens
import Derived.Test.YtnncfaaebnkcbaaGreatDoorShelf
set_option linter.unusedVariables false
namespace Go.Vw
open Go.RowKit Dat Go.Proofs
/-- What the variables hold. -/
def GD (w:World):Prop:=Lib.TabIs Tryz.prog w "internal/strconv.uint64pow10" .u64 Lib.pow10Tab/\w.cell? ⟨0,0,none⟩=some (.iface 163 (.agg #[.pointer (some ⟨4,99,none⟩)]))
abbrev Gl:World->Zone->Prop:=GlW 4 GD
theorem gl_err {w:World}{B:Zone}(h:Gl w B):w.cell? ⟨0,0,none⟩=some (.iface 163<|.agg #[.pointer (some ⟨4,99,none⟩)]):=h.cell (fun _ h=>h.2) (by decide)
theorem gl_tab {w:World}{B:Zone}(h:Gl w B):Lib.TabIs Tryz.prog w "internal/strconv.uint64pow10" .u64 Lib.pow10Tab:=h.tab (fun _ h=>h.1) (by kernel_rfl:Tryz.prog.globalNamed "internal/strconv.uint64pow10" = some 1) (by decide)
def r_0 (w0:World)(B:Zone)(r:Str)(v:Value)(w':World):Prop:=Below w0.heap.size w0 w'/\(fun G=>(Str.v G)=v/\G.b.length<=LEN) r
theorem r_1 {B:Zone}{x1:Int}{res:Str}{w0:World}(hm:j_r x1=some res)(H:B<=w0.heap.size)(hG:Gl w0 B)(G:inI x1):k_ Tryz.prog 157 [vI x1] w0 (r_0 w0 B res):=by
  obtain rfl:=som hm;exact (o_x<|Tryz.strconv_Itoa x1 (by unfold inI at G;omega) (by unfold inI at G;omega) w0<|gl_tab hG).mono fun v w' h=>⟨h.2,h.1,Nat.le_trans (Lib.itoa_length_le x1 (by unfold inI at G;omega) (by unfold inI at G;omega))<|Nat.le_of_ble_eq_true rfl⟩
section
open Go.Extern.Stop Go.Stop Go.Extern
/-! ### errors.As at one target type (after the kit's worked example) -/
theorem as_nil (t:Value)(w:World):Calls Tryz.prog 69 #[.nilIface,t] w fun e w'=>e = .returned (.bool false)/\w'=w:=by
  go_enter Tryz.func69,Tryz.ntmps69
  go_wp2
  go_ret
  exact ⟨rfl,rfl⟩
theorem r_2 (t:Addr)(w:World):(ReflectliteValue.unpack<|.iface 104<|.pointer<|some t).run Tryz.prog w
    = .ok (.agg #[.pointer (some ⟨4,104,none⟩),.pointer<|some ⟨w.heap.size,0,none⟩,.int .u64 150]) (w.alloc<|.cells #[.pointer (some t)] 104):=by kernel_rfl
theorem r_3 (a:Addr)(w:World):(ReflectliteValue.methodAny (ReflectliteValue.valueError "reflectlite.Value.Type" 0) (fun t _ _ _=>ReflectliteType.toType t) #[.agg #[.pointer (some ⟨4,104,none⟩),.pointer (some a),.int .u64 150]]).run Tryz.prog w
    = .ok (.iface 163<|.agg #[.pointer (some ⟨4,104,none⟩)]) w:=by kernel_rfl
theorem r_4 (h:Value)(w:World):(Go.method 335 163 (.agg #[h]) "Kind").run Tryz.prog w = .ok (187,h) w:=by kernel_rfl
theorem r_5 (w:World):((ReflectliteType.abiMethod fun t=>Functor.map (fun a:Nat=>Value.int IntKind.u8 (a:Int))<|Rtype.kind t) #[.pointer (some ⟨4,104,none⟩)]).run Tryz.prog w = .ok (.int .u8 22) w:=by kernel_rfl
theorem r_6 (w:World):((ReflectliteType.abiMethod fun t=>Functor.map (fun a:Nat=>Value.int IntKind.u8 (a:Int))<|Rtype.kind t) #[.pointer (some ⟨4,102,none⟩)]).run Tryz.prog w = .ok (.int .u8 22) w:=by kernel_rfl
theorem m_V (z:Sem Value)(f:TypeId->Addr->Nat->Nat->Sem Value)(v:Value) :
    ReflectliteValue.method z f #[v]=(do match ← ReflectliteValue.parts v with | none=>z | some (t,a,fl)=>f t a fl<|fl % 32):=rfl
theorem m_W (a:Addr)(w:World):(ReflectliteValue.parts<|.agg #[.pointer (some ⟨4,104,none⟩),.pointer<|some a,.int .u64 150]).run Tryz.prog w = .ok (some (104,a,150)) w:=by kernel_rfl
theorem r_7 (a p:Addr)(W:World)(ha:W.cell? a=some (.pointer<|some p)) :
    (ReflectliteValue.method (ReflectliteValue.valueError "reflectlite.Value.IsNil" 0) ReflectliteValue.isNil #[.agg #[.pointer (some ⟨4,104,none⟩),.pointer (some a),.int .u64 150]]).run Tryz.prog W = .ok (.bool false) W:=by
  rw [m_V]
  simp only [Sem.run_bind,m_W,Result.andThen]
  simp [ReflectliteValue.isNil,loadVar,isAgg,underlying,Tryz.underlying104,ha,Result.andThen]
theorem r_8 (h:Value)(w:World):(Go.method 335 163 (.agg #[h]) "Elem").run Tryz.prog w = .ok (197,.agg #[h]) w:=by kernel_rfl
theorem r_9 (h:Value)(w:World):(Go.method 335 163 (.agg #[h]) "Implements").run Tryz.prog w = .ok (198,.agg #[h]) w:=by kernel_rfl
theorem r_a (h:Value)(w:World):(Go.method 335 163 (.agg #[h]) "AssignableTo").run Tryz.prog w = .ok (195,.agg #[h]) w:=by kernel_rfl
theorem r_b (w:World):(ReflectliteType.method ReflectliteType.elem #[.agg #[.pointer (some ⟨4,104,none⟩)]]).run Tryz.prog w = .ok (.iface 163<|.agg #[.pointer (some ⟨4,102,none⟩)]) w:=by kernel_rfl
theorem r_c (w:World):(ReflectliteType.relation "Implements" ReflectliteType.implements_ #[.agg #[.pointer (some ⟨4,102,none⟩)],.iface 163 (.agg #[.pointer (some ⟨4,99,none⟩)])]).run Tryz.prog w = .ok (.bool true) w:=by kernel_rfl
theorem r_d (v:Value)(w:World):(ReflectliteType.typeOf #[.iface 102 v]).run Tryz.prog w = .ok (.iface 163<|.agg #[.pointer (some ⟨4,102,none⟩)]) w:=by kernel_rfl
theorem r_e (w:World):(ReflectliteType.relation "AssignableTo" ReflectliteType.assignableTo #[.agg #[.pointer (some ⟨4,102,none⟩)],.iface 163 (.agg #[.pointer (some ⟨4,102,none⟩)])]).run Tryz.prog w = .ok (.bool true) w:=by kernel_rfl
theorem r_f (e:Addr)(w:World):(ReflectliteValue.unpack<|.iface 102<|.pointer<|some e).run Tryz.prog w
    = .ok (.agg #[.pointer (some ⟨4,102,none⟩),.pointer<|some ⟨w.heap.size,0,none⟩,.int .u64 150]) (w.alloc<|.cells #[.pointer (some e)] 102):=by kernel_rfl
theorem r_g (w:World):(Rtype.elem? 104).run Tryz.prog w = .ok (some 102) w:=by kernel_rfl
theorem r_h (p:Addr)(w:World):(ReflectliteValue.mk 102 p ReflectliteValue.flagAddr).run Tryz.prog w = .ok (.agg #[.pointer (some ⟨4,102,none⟩),.pointer<|some p,.int .u64 406]) w:=by kernel_rfl
theorem r_i (a p:Addr)(W:World)(ha:W.cell? a=some (.pointer<|some p)) :
    (ReflectliteValue.method (ReflectliteValue.valueError "reflectlite.Value.Elem" 0) ReflectliteValue.elem #[.agg #[.pointer (some ⟨4,104,none⟩),.pointer (some a),.int .u64 150]]).run Tryz.prog W
      = .ok (.agg #[.pointer (some ⟨4,102,none⟩),.pointer<|some p,.int .u64 406]) W:=by
  rw [m_V]
  simp only [Sem.run_bind,m_W,Result.andThen]
  simp [ReflectliteValue.elem,loadVar,isAgg,underlying,Tryz.underlying104,ha,Result.andThen,r_g,r_h]
theorem as_rls (v x:Value):ReflectliteValue.set #[v,x]=(do
    let (some (dst,a,fl),some (src,b,_)):=(← ReflectliteValue.parts v,← ReflectliteValue.parts x)
      | unsupported (.noEntry "extern/(internal/reflectlite.Value).Set.zeroValue")
    if fl / ReflectliteValue.flagAddr % 2==0 then unsupported (.noEntry "extern/(internal/reflectlite.Value).Set.unaddressable")
    let val ← loadVar src b
    if ← Rtype.directlyAssignable dst src then storeVar dst a val
    else if ← Rtype.implements dst src then
      if (← Rtype.kind src)==20 then
        match val with
        | .nilIface=>unsupported (.noEntry "extern/reflectlite: a nil value of one interface type handed on as a value of another")
        | _=>storeVar dst a val
      else storeVar dst a (.iface src val)
    else panicString ("reflectlite.Set: value of type " ++ (← Rtype.spelt src) ++ " is not assignable to type " ++ (← Rtype.spelt dst))
    pure (.tuple #[])):=rfl
theorem r_j (a:Addr)(w:World):(ReflectliteValue.parts<|.agg #[.pointer (some ⟨4,102,none⟩),.pointer<|some a,.int .u64 406]).run Tryz.prog w = .ok (some (102,a,406)) w:=by kernel_rfl
theorem r_k (a:Addr)(w:World):(ReflectliteValue.parts<|.agg #[.pointer (some ⟨4,102,none⟩),.pointer<|some a,.int .u64 150]).run Tryz.prog w = .ok (some (102,a,150)) w:=by kernel_rfl
theorem r_l (w:World):(Rtype.directlyAssignable 102 102).run Tryz.prog w = .ok true w:=by kernel_rfl
theorem as_size25 (w:World):(sizeOf 102).run Tryz.prog w = .ok 1 w:=by kernel_rfl
theorem r_m (ta b e:Addr)(old:Value)(W:World)(hb:W.cell? b=some (.pointer<|some e))(ht:W.cell? ta=some old)(hf:W.frozen? ta=false) :
    (ReflectliteValue.set #[.agg #[.pointer (some ⟨4,102,none⟩),.pointer<|some ta,.int .u64 406],.agg #[.pointer (some ⟨4,102,none⟩),.pointer<|some b,.int .u64 150]]).run Tryz.prog W
      = .ok (.tuple #[]) (W.setCell ta<|.pointer<|some e):=by
  rw [as_rls]
  simp only [Sem.run_bind,r_j,r_k,Result.andThen]
  simp [ReflectliteValue.flagAddr,loadVar,isAgg,underlying,Tryz.underlying102,hb,Result.andThen,r_l,storeVar,Value.cells,storeCells,Addr.add]
  rw [run_store Tryz.prog W ta _ _ (by rfl)]
  simp [ht,hf]
set_option maxHeartbeats 4000000 in
theorem as_hit (e t:Addr)(old:Value)(w:World)(hg:w.cell? ⟨0,0,none⟩=some (.iface 163<|.agg #[.pointer (some ⟨4,99,none⟩)]))(G:w.cell? t=some old)(H:w.frozen? t=false) :
    Calls Tryz.prog 69 #[.iface 102 (.pointer<|some e),.iface 104<|.pointer<|some t] w fun ev w'=>ev = .returned (.bool true)/\w'=((((w.alloc<|.cells #[.pointer (some t)] 104).alloc (.cells #[.pointer (some ⟨4,104,none⟩),.pointer<|some ⟨w.heap.size,0,none⟩,.int .u64 150] 142)).alloc (.cells #[.pointer (some ⟨4,104,none⟩),.pointer<|some ⟨w.heap.size,0,none⟩,.int .u64 150] 142)).alloc (.cells #[.pointer (some e)] 102)).setCell t (.pointer<|some e):=by
  have h6:=@run_callFunc_extern Tryz.prog 105 _ (fun args=>ReflectliteValue.unpack (args.getD 0 (.tuple #[]))) Tryz.func105 (by kernel_rfl) (by kernel_rfl) (by kernel_rfl) (by kernel_rfl);have h7:=@run_callFunc_extern Tryz.prog 106 _ (ReflectliteValue.methodAny (ReflectliteValue.valueError "reflectlite.Value.Type" 0) (fun t _ _ _=>ReflectliteType.toType t)) Tryz.func106 (by kernel_rfl) (by kernel_rfl) (by kernel_rfl) (by kernel_rfl)
  have h8:=@run_callFunc_extern Tryz.prog 107 _ (ReflectliteValue.method (ReflectliteValue.valueError "reflectlite.Value.IsNil" 0) ReflectliteValue.isNil) Tryz.func107 (by kernel_rfl) (by kernel_rfl) (by kernel_rfl) (by kernel_rfl)
  have I:=@run_callFunc_extern Tryz.prog 187 _ (ReflectliteType.abiMethod fun t=>do pure (.int .u8 (← Rtype.kind t))) Tryz.func187 (by kernel_rfl) (by kernel_rfl) (by kernel_rfl) (by kernel_rfl);have J:=@run_callFunc_extern Tryz.prog 197 _ (ReflectliteType.method ReflectliteType.elem) Tryz.func197 (by kernel_rfl) (by kernel_rfl) (by kernel_rfl) (by kernel_rfl);have L:=@run_callFunc_extern Tryz.prog 198 _ (ReflectliteType.relation "Implements" ReflectliteType.implements_) Tryz.func198 (by kernel_rfl) (by kernel_rfl) (by kernel_rfl) (by kernel_rfl)
  have O:=@run_callFunc_extern Tryz.prog 131 _ ReflectliteType.typeOf Tryz.func131 (by kernel_rfl) (by kernel_rfl) (by kernel_rfl) (by kernel_rfl);have V:=@run_callFunc_extern Tryz.prog 195 _ (ReflectliteType.relation "AssignableTo" ReflectliteType.assignableTo) Tryz.func195 (by kernel_rfl) (by kernel_rfl) (by kernel_rfl) (by kernel_rfl)
  have W:=@run_callFunc_extern Tryz.prog 132 _ (ReflectliteValue.method (ReflectliteValue.valueError "reflectlite.Value.Elem" 0) ReflectliteValue.elem) Tryz.func132 (by kernel_rfl) (by kernel_rfl) (by kernel_rfl) (by kernel_rfl)
  have Y:=@run_callFunc_extern Tryz.prog 133 _ ReflectliteValue.set Tryz.func133 (by kernel_rfl) (by kernel_rfl) (by kernel_rfl) (by kernel_rfl);have tO:=r_d;have mA:=r_a;have a0:=r_e;have a1:=r_f;have f6:=r_2;have f7:=r_3;have mK:=r_4;have mE:=r_8;have mI:=r_9;have a2:=r_5;have a3:=r_6;have a4:=r_b;have a5:=r_c;have n8:=r_7 ⟨w.heap.size,0,none⟩ t ((w.alloc<|.cells #[.pointer (some t)] 104).alloc (.cells #[.pointer (some ⟨4,104,none⟩),.pointer<|some ⟨w.heap.size,0,none⟩,.int .u64 150] 142)) (by simp);have hlt:0<w.heap.size:=World.block_lt_of_cell? w _ hg
  have a6:((w.alloc<|.cells #[.pointer (some t)] 104).alloc (.cells #[.pointer (some ⟨4,104,none⟩),.pointer<|some ⟨w.heap.size,0,none⟩,.int .u64 150] 142)).cell? ⟨0,0,none⟩=some (.iface 163<|.agg #[.pointer (some ⟨4,99,none⟩)]):=by
    rw [World.cell?_alloc_lt _ _ ⟨0,0,none⟩ (by simp <;> omega),World.cell?_alloc_lt _ _ ⟨0,0,none⟩ hlt];exact hg
  have htl:t.block<w.heap.size:=by
    rcases Nat.lt_or_ge t.block w.heap.size with h | h
    · exact h
    · simp [World.cell?,Array.getElem?_eq_none h] at G
  have el:=r_i ⟨w.heap.size,0,none⟩ t (((w.alloc<|.cells #[.pointer (some t)] 104).alloc (.cells #[.pointer (some ⟨4,104,none⟩),.pointer<|some ⟨w.heap.size,0,none⟩,.int .u64 150] 142)).alloc (.cells #[.pointer (some ⟨4,104,none⟩),.pointer<|some ⟨w.heap.size,0,none⟩,.int .u64 150] 142)) (by rw [World.cell?_alloc_lt _ _ ⟨w.heap.size,0,none⟩ (by simp;omega)];simp)
  have st:=r_m t ⟨w.heap.size+1+1+1,0,none⟩ e old ((((w.alloc<|.cells #[.pointer (some t)] 104).alloc (.cells #[.pointer (some ⟨4,104,none⟩),.pointer<|some ⟨w.heap.size,0,none⟩,.int .u64 150] 142)).alloc (.cells #[.pointer (some ⟨4,104,none⟩),.pointer<|some ⟨w.heap.size,0,none⟩,.int .u64 150] 142)).alloc (.cells #[.pointer (some e)] 102))
    (by rw [World.cell?_alloc_at _ _ _ _ (by simp)];rfl)
    (by rw [World.cell?_alloc_lt _ _ t (by simp;omega),World.cell?_alloc_lt _ _ t (by simp;omega),World.cell?_alloc_lt _ _ t (by simp;omega),World.cell?_alloc_lt _ _ t htl];exact G)
    (by rw [World.frozen?_alloc_old _ _ t (by simp;omega),World.frozen?_alloc_old _ _ t (by simp;omega),World.frozen?_alloc_old _ _ t (by simp;omega),World.frozen?_alloc_old _ _ t<|Nat.ne_of_lt htl];exact H)
  go_enter Tryz.func69,Tryz.ntmps69
  go_wp2
  refine wp_loop_rounds 1 ?_
  rw [rounds_succ]
  go_wp2
  go_ret
  exact ⟨rfl,rfl⟩
theorem r_n {S:List Nat}{v t:Value}{w:World}{o:Option (Int×Int)}(h:a_C 102 w S v o)(ho:o.isSome=false):k_ Tryz.prog 69 [v,t] w (fun r w'=>vB false=r/\Below w.heap.size w w'):=by
  cases o with
  | some _=>cases ho
  | none =>
  obtain ⟨rfl,_⟩:=h;exact ⟨(as_nil t w).mono fun e w' ⟨he,hw⟩=>⟨_,he,rfl,hw ▸ Below.refl _ _⟩⟩
theorem r_o {S:List Nat}{v:Value}{w:World}{B:Zone}{g:Nat}{o:Option (Int×Int)}{p c:Int}(hG:Gl w B)(h:a_C 102 w S v o)(ho:o=some (p,c))(hb:Blk w g [.pointer none]) :
    k_ Tryz.prog 69 [v,.iface 104<|.pointer<|some ⟨g,0,none⟩] w (fun r w'=>∃ge,vB true=r/\Chg (· = g) w w'/\Blk w' g [.pointer (some ⟨ge,0,none⟩)]/\Blk w ge [vI p,vI c]/\ge∈S/\inI p/\inI c):=by
  subst ho;obtain ⟨b,rfl,rfl,hbk,hp,hc⟩:=h;refine ⟨(as_hit ⟨b,0,none⟩ ⟨g,0,none⟩ (.pointer none) w (gl_err hG) (hb.at rfl)<|hb.free (i:=0) Nat.zero_lt_one).mono fun e w' ⟨he,hw⟩=>⟨_,he,b,rfl,?_,?_,hbk,List.mem_singleton.2 rfl,hp,hc⟩⟩
  · subst hw;exact as_chg hb
  · subst hw;exact as_blk hb
end
end Go.Vw
