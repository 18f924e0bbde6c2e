/- The package-level variables, and the library's functions that are called. -/
import Derived.Test.YtgieiijmhcgmcaaGreatDoorVmA
import Derived.WalkKit
import Derived.LaidEql
import Derived.Stop.Asserts
import Derived.RowKitTokens
import Derived.Test.YtgieiijmhcgmcaaGreatDoorShelf
set_option linter.unusedVariables false
namespace Go.Vw
open Go.RowKit Dat Go.Proofs
/-- What the variables hold. -/
def GD (w:World):Prop:=Lib.TabIs Tryz.prog w "internal/strconv.uint64pow10" .u64 Lib.pow10Tab/\w.cell? ⟨0,0,none⟩=some (.iface 158 (.agg #[.pointer (some ⟨4,113,none⟩)]))
abbrev Gl:World->Zone->Prop:=GlW 4 GD
theorem gl_err {w:World}{B:Zone}(h:Gl w B):w.cell? ⟨0,0,none⟩=some (.iface 158<|.agg #[.pointer (some ⟨4,113,none⟩)]):=h.cell (fun _ h=>h.2) (by decide)
theorem gl_tab {w:World}{B:Zone}(h:Gl w B):Lib.TabIs Tryz.prog w "internal/strconv.uint64pow10" .u64 Lib.pow10Tab:=h.tab (fun _ h=>h.1) (by kernel_rfl:Tryz.prog.globalNamed "internal/strconv.uint64pow10" = some 1) (by decide)
def m_V (w0:World)(B:Zone)(r:Str)(v:Value)(w':World):Prop:=Below w0.heap.size w0 w'/\(fun h=>(Str.v h)=v/\h.b.length<=LEN) r
theorem m_W {B:Zone}{x1:Int}{res:Str}{w0:World}(hm:i_9 x1=some res)(H:B<=w0.heap.size)(hG:Gl w0 B)(G:inI x1):j_ Tryz.prog 114 [vI x1] w0 (m_V w0 B res):=by
  obtain rfl:=som hm;exact (m_R<|Tryz.strconv_Itoa x1 (by unfold inI at G;omega) (by unfold inI at G;omega) w0<|gl_tab hG).mono fun v w' h=>⟨h.2,h.1,Nat.le_trans (Lib.itoa_length_le x1 (by unfold inI at G;omega) (by unfold inI at G;omega))<|Nat.le_of_ble_eq_true rfl⟩
section
open Go.Extern.Stop Go.Stop Go.Extern
/-! ### errors.As at one target type (after the kit's worked example) -/
theorem as_nil (t:Value)(w:World):Calls Tryz.prog 72 #[.nilIface,t] w fun e w'=>e = .returned (.bool false)/\w'=w:=by
  go_enter Tryz.func72,Tryz.ntmps72
  go_wp2
  go_ret
  exact ⟨rfl,rfl⟩
theorem m_X (t:Addr)(w:World):(ReflectliteValue.unpack<|.iface 118<|.pointer<|some t).run Tryz.prog w
    = .ok (.agg #[.pointer (some ⟨4,118,none⟩),.pointer<|some ⟨w.heap.size,0,none⟩,.int .u64 150]) (w.alloc<|.cells #[.pointer (some t)] 118):=by kernel_rfl
theorem m_Y (a:Addr)(w:World):(ReflectliteValue.methodAny (ReflectliteValue.valueError "reflectlite.Value.Type" 0) (fun t _ _ _=>ReflectliteType.toType t) #[.agg #[.pointer (some ⟨4,118,none⟩),.pointer (some a),.int .u64 150]]).run Tryz.prog w
    = .ok (.iface 158<|.agg #[.pointer (some ⟨4,118,none⟩)]) w:=by kernel_rfl
theorem m_Z (h:Value)(w:World):(Go.method 319 158 (.agg #[h]) "Kind").run Tryz.prog w = .ok (159,h) w:=by kernel_rfl
theorem n_0 (w:World):((ReflectliteType.abiMethod fun t=>Functor.map (fun a:Nat=>Value.int IntKind.u8 (a:Int))<|Rtype.kind t) #[.pointer (some ⟨4,118,none⟩)]).run Tryz.prog w = .ok (.int .u8 22) w:=by kernel_rfl
theorem n_1 (w:World):((ReflectliteType.abiMethod fun t=>Functor.map (fun a:Nat=>Value.int IntKind.u8 (a:Int))<|Rtype.kind t) #[.pointer (some ⟨4,116,none⟩)]).run Tryz.prog w = .ok (.int .u8 22) w:=by kernel_rfl
theorem j_O (z:Sem Value)(f:TypeId->Addr->Nat->Nat->Sem Value)(v:Value) :
    ReflectliteValue.method z f #[v]=(do match ← ReflectliteValue.parts v with | none=>z | some (t,a,fl)=>f t a fl<|fl % 32):=rfl
theorem j_P (a:Addr)(w:World):(ReflectliteValue.parts<|.agg #[.pointer (some ⟨4,118,none⟩),.pointer<|some a,.int .u64 150]).run Tryz.prog w = .ok (some (118,a,150)) w:=by kernel_rfl
theorem n_2 (a p:Addr)(W:World)(ha:W.cell? a=some (.pointer<|some p)) :
    (ReflectliteValue.method (ReflectliteValue.valueError "reflectlite.Value.IsNil" 0) ReflectliteValue.isNil #[.agg #[.pointer (some ⟨4,118,none⟩),.pointer (some a),.int .u64 150]]).run Tryz.prog W = .ok (.bool false) W:=by
  rw [j_O]
  simp only [Sem.run_bind,j_P,Result.andThen]
  simp [ReflectliteValue.isNil,loadVar,isAgg,underlying,Tryz.underlying118,ha,Result.andThen]
theorem n_3 (h:Value)(w:World):(Go.method 319 158 (.agg #[h]) "Elem").run Tryz.prog w = .ok (169,.agg #[h]) w:=by kernel_rfl
theorem n_4 (h:Value)(w:World):(Go.method 319 158 (.agg #[h]) "Implements").run Tryz.prog w = .ok (170,.agg #[h]) w:=by kernel_rfl
theorem n_5 (h:Value)(w:World):(Go.method 319 158 (.agg #[h]) "AssignableTo").run Tryz.prog w = .ok (167,.agg #[h]) w:=by kernel_rfl
theorem n_6 (w:World):(ReflectliteType.method ReflectliteType.elem #[.agg #[.pointer (some ⟨4,118,none⟩)]]).run Tryz.prog w = .ok (.iface 158<|.agg #[.pointer (some ⟨4,116,none⟩)]) w:=by kernel_rfl
theorem n_7 (w:World):(ReflectliteType.relation "Implements" ReflectliteType.implements_ #[.agg #[.pointer (some ⟨4,116,none⟩)],.iface 158 (.agg #[.pointer (some ⟨4,113,none⟩)])]).run Tryz.prog w = .ok (.bool true) w:=by kernel_rfl
theorem n_8 (v:Value)(w:World):(ReflectliteType.typeOf #[.iface 116 v]).run Tryz.prog w = .ok (.iface 158<|.agg #[.pointer (some ⟨4,116,none⟩)]) w:=by kernel_rfl
theorem n_9 (w:World):(ReflectliteType.relation "AssignableTo" ReflectliteType.assignableTo #[.agg #[.pointer (some ⟨4,116,none⟩)],.iface 158 (.agg #[.pointer (some ⟨4,116,none⟩)])]).run Tryz.prog w = .ok (.bool true) w:=by kernel_rfl
theorem n_a (e:Addr)(w:World):(ReflectliteValue.unpack<|.iface 116<|.pointer<|some e).run Tryz.prog w
    = .ok (.agg #[.pointer (some ⟨4,116,none⟩),.pointer<|some ⟨w.heap.size,0,none⟩,.int .u64 150]) (w.alloc<|.cells #[.pointer (some e)] 116):=by kernel_rfl
theorem n_b (w:World):(Rtype.elem? 118).run Tryz.prog w = .ok (some 116) w:=by kernel_rfl
theorem n_c (p:Addr)(w:World):(ReflectliteValue.mk 116 p ReflectliteValue.flagAddr).run Tryz.prog w = .ok (.agg #[.pointer (some ⟨4,116,none⟩),.pointer<|some p,.int .u64 406]) w:=by kernel_rfl
theorem n_d (a p:Addr)(W:World)(ha:W.cell? a=some (.pointer<|some p)) :
    (ReflectliteValue.method (ReflectliteValue.valueError "reflectlite.Value.Elem" 0) ReflectliteValue.elem #[.agg #[.pointer (some ⟨4,118,none⟩),.pointer (some a),.int .u64 150]]).run Tryz.prog W
      = .ok (.agg #[.pointer (some ⟨4,116,none⟩),.pointer<|some p,.int .u64 406]) W:=by
  rw [j_O]
  simp only [Sem.run_bind,j_P,Result.andThen]
  simp [ReflectliteValue.elem,loadVar,isAgg,underlying,Tryz.underlying118,ha,Result.andThen,n_b,n_c]
theorem as_rls (v x:Value):ReflectliteValue.set #[v,x]=(do
    let (some (dst,a,fl),some (src,b,_)):=(← ReflectliteValue.parts v,← ReflectliteValue.parts x)
      | unsupported (.noEntry "extern/(internal/reflectlite.Value).Set.zeroValue")
    if fl / ReflectliteValue.flagAddr % 2==0 then unsupported (.noEntry "extern/(internal/reflectlite.Value).Set.unaddressable")
    let val ← loadVar src b
    if ← Rtype.directlyAssignable dst src then storeVar dst a val
    else if ← Rtype.implements dst src then
      if (← Rtype.kind src)==20 then
        match val with
        | .nilIface=>unsupported (.noEntry "extern/reflectlite: a nil value of one interface type handed on as a value of another")
        | _=>storeVar dst a val
      else storeVar dst a (.iface src val)
    else panicString ("reflectlite.Set: value of type " ++ (← Rtype.spelt src) ++ " is not assignable to type " ++ (← Rtype.spelt dst))
    pure (.tuple #[])):=rfl
theorem n_e (a:Addr)(w:World):(ReflectliteValue.parts<|.agg #[.pointer (some ⟨4,116,none⟩),.pointer<|some a,.int .u64 406]).run Tryz.prog w = .ok (some (116,a,406)) w:=by kernel_rfl
theorem n_f (a:Addr)(w:World):(ReflectliteValue.parts<|.agg #[.pointer (some ⟨4,116,none⟩),.pointer<|some a,.int .u64 150]).run Tryz.prog w = .ok (some (116,a,150)) w:=by kernel_rfl
theorem n_g (w:World):(Rtype.directlyAssignable 116 116).run Tryz.prog w = .ok true w:=by kernel_rfl
theorem as_size25 (w:World):(sizeOf 116).run Tryz.prog w = .ok 1 w:=by kernel_rfl
theorem n_h (ta b e:Addr)(old:Value)(W:World)(hb:W.cell? b=some (.pointer<|some e))(ht:W.cell? ta=some old)(hf:W.frozen? ta=false) :
    (ReflectliteValue.set #[.agg #[.pointer (some ⟨4,116,none⟩),.pointer<|some ta,.int .u64 406],.agg #[.pointer (some ⟨4,116,none⟩),.pointer<|some b,.int .u64 150]]).run Tryz.prog W
      = .ok (.tuple #[]) (W.setCell ta<|.pointer<|some e):=by
  rw [as_rls]
  simp only [Sem.run_bind,n_e,n_f,Result.andThen]
  simp [ReflectliteValue.flagAddr,loadVar,isAgg,underlying,Tryz.underlying116,hb,Result.andThen,n_g,storeVar,Value.cells,storeCells,Addr.add]
  rw [run_store Tryz.prog W ta _ _ (by rfl)]
  simp [ht,hf]
set_option maxHeartbeats 4000000 in
theorem as_hit (e t:Addr)(old:Value)(w:World)(hg:w.cell? ⟨0,0,none⟩=some (.iface 158<|.agg #[.pointer (some ⟨4,113,none⟩)]))(G:w.cell? t=some old)(H:w.frozen? t=false) :
    Calls Tryz.prog 72 #[.iface 116 (.pointer<|some e),.iface 118<|.pointer<|some t] w fun ev w'=>ev = .returned (.bool true)/\w'=((((w.alloc<|.cells #[.pointer (some t)] 118).alloc (.cells #[.pointer (some ⟨4,118,none⟩),.pointer<|some ⟨w.heap.size,0,none⟩,.int .u64 150] 144)).alloc (.cells #[.pointer (some ⟨4,118,none⟩),.pointer<|some ⟨w.heap.size,0,none⟩,.int .u64 150] 144)).alloc (.cells #[.pointer (some e)] 116)).setCell t (.pointer<|some e):=by
  have h6:=@run_callFunc_extern Tryz.prog 104 _ (fun args=>ReflectliteValue.unpack (args.getD 0 (.tuple #[]))) Tryz.func104 (by kernel_rfl) (by kernel_rfl) (by kernel_rfl) (by kernel_rfl);have h7:=@run_callFunc_extern Tryz.prog 105 _ (ReflectliteValue.methodAny (ReflectliteValue.valueError "reflectlite.Value.Type" 0) (fun t _ _ _=>ReflectliteType.toType t)) Tryz.func105 (by kernel_rfl) (by kernel_rfl) (by kernel_rfl) (by kernel_rfl)
  have h8:=@run_callFunc_extern Tryz.prog 106 _ (ReflectliteValue.method (ReflectliteValue.valueError "reflectlite.Value.IsNil" 0) ReflectliteValue.isNil) Tryz.func106 (by kernel_rfl) (by kernel_rfl) (by kernel_rfl) (by kernel_rfl)
  have I:=@run_callFunc_extern Tryz.prog 159 _ (ReflectliteType.abiMethod fun t=>do pure (.int .u8 (← Rtype.kind t))) Tryz.func159 (by kernel_rfl) (by kernel_rfl) (by kernel_rfl) (by kernel_rfl);have J:=@run_callFunc_extern Tryz.prog 169 _ (ReflectliteType.method ReflectliteType.elem) Tryz.func169 (by kernel_rfl) (by kernel_rfl) (by kernel_rfl) (by kernel_rfl);have L:=@run_callFunc_extern Tryz.prog 170 _ (ReflectliteType.relation "Implements" ReflectliteType.implements_) Tryz.func170 (by kernel_rfl) (by kernel_rfl) (by kernel_rfl) (by kernel_rfl)
  have O:=@run_callFunc_extern Tryz.prog 116 _ ReflectliteType.typeOf Tryz.func116 (by kernel_rfl) (by kernel_rfl) (by kernel_rfl) (by kernel_rfl);have V:=@run_callFunc_extern Tryz.prog 167 _ (ReflectliteType.relation "AssignableTo" ReflectliteType.assignableTo) Tryz.func167 (by kernel_rfl) (by kernel_rfl) (by kernel_rfl) (by kernel_rfl)
  have W:=@run_callFunc_extern Tryz.prog 117 _ (ReflectliteValue.method (ReflectliteValue.valueError "reflectlite.Value.Elem" 0) ReflectliteValue.elem) Tryz.func117 (by kernel_rfl) (by kernel_rfl) (by kernel_rfl) (by kernel_rfl)
  have Y:=@run_callFunc_extern Tryz.prog 118 _ ReflectliteValue.set Tryz.func118 (by kernel_rfl) (by kernel_rfl) (by kernel_rfl) (by kernel_rfl);have tO:=n_8;have mA:=n_5;have a0:=n_9;have a1:=n_a;have f6:=m_X;have f7:=m_Y;have mK:=m_Z;have mE:=n_3;have mI:=n_4;have a2:=n_0;have a3:=n_1;have a4:=n_6;have a5:=n_7;have n8:=n_2 ⟨w.heap.size,0,none⟩ t ((w.alloc<|.cells #[.pointer (some t)] 118).alloc (.cells #[.pointer (some ⟨4,118,none⟩),.pointer<|some ⟨w.heap.size,0,none⟩,.int .u64 150] 144)) (by simp);have hlt:0<w.heap.size:=World.block_lt_of_cell? w _ hg
  have a6:((w.alloc<|.cells #[.pointer (some t)] 118).alloc (.cells #[.pointer (some ⟨4,118,none⟩),.pointer<|some ⟨w.heap.size,0,none⟩,.int .u64 150] 144)).cell? ⟨0,0,none⟩=some (.iface 158<|.agg #[.pointer (some ⟨4,113,none⟩)]):=by
    rw [World.cell?_alloc_lt _ _ ⟨0,0,none⟩ (by simp <;> omega),World.cell?_alloc_lt _ _ ⟨0,0,none⟩ hlt];exact hg
  have htl:t.block<w.heap.size:=by
    rcases Nat.lt_or_ge t.block w.heap.size with h | h
    · exact h
    · simp [World.cell?,Array.getElem?_eq_none h] at G
  have el:=n_d ⟨w.heap.size,0,none⟩ t (((w.alloc<|.cells #[.pointer (some t)] 118).alloc (.cells #[.pointer (some ⟨4,118,none⟩),.pointer<|some ⟨w.heap.size,0,none⟩,.int .u64 150] 144)).alloc (.cells #[.pointer (some ⟨4,118,none⟩),.pointer<|some ⟨w.heap.size,0,none⟩,.int .u64 150] 144)) (by rw [World.cell?_alloc_lt _ _ ⟨w.heap.size,0,none⟩ (by simp;omega)];simp)
  have st:=n_h t ⟨w.heap.size+1+1+1,0,none⟩ e old ((((w.alloc<|.cells #[.pointer (some t)] 118).alloc (.cells #[.pointer (some ⟨4,118,none⟩),.pointer<|some ⟨w.heap.size,0,none⟩,.int .u64 150] 144)).alloc (.cells #[.pointer (some ⟨4,118,none⟩),.pointer<|some ⟨w.heap.size,0,none⟩,.int .u64 150] 144)).alloc (.cells #[.pointer (some e)] 116))
    (by rw [World.cell?_alloc_at _ _ _ _ (by simp)];rfl)
    (by rw [World.cell?_alloc_lt _ _ t (by simp;omega),World.cell?_alloc_lt _ _ t (by simp;omega),World.cell?_alloc_lt _ _ t (by simp;omega),World.cell?_alloc_lt _ _ t htl];exact G)
    (by rw [World.frozen?_alloc_old _ _ t (by simp;omega),World.frozen?_alloc_old _ _ t (by simp;omega),World.frozen?_alloc_old _ _ t (by simp;omega),World.frozen?_alloc_old _ _ t<|Nat.ne_of_lt htl];exact H)
  go_enter Tryz.func72,Tryz.ntmps72
  go_wp2
  refine wp_loop_rounds 1 ?_
  rw [rounds_succ]
  go_wp2
  go_ret
  exact ⟨rfl,rfl⟩
theorem n_i {S:List Nat}{v t:Value}{w:World}{o:Option (Int×Int)}(h:a_m 116 w S v o)(ho:o.isSome=false):j_ Tryz.prog 72 [v,t] w (fun r w'=>vB false=r/\Below w.heap.size w w'):=by
  cases o with
  | some _=>cases ho
  | none =>
  obtain ⟨rfl,_⟩:=h;exact ⟨(as_nil t w).mono fun e w' ⟨he,hw⟩=>⟨_,he,rfl,hw ▸ Below.refl _ _⟩⟩
theorem n_j {S:List Nat}{v:Value}{w:World}{B:Zone}{g:Nat}{o:Option (Int×Int)}{p c:Int}(hG:Gl w B)(h:a_m 116 w S v o)(ho:o=some (p,c))(hb:Blk w g [.pointer none]) :
    j_ Tryz.prog 72 [v,.iface 118<|.pointer<|some ⟨g,0,none⟩] w (fun r w'=>∃ge,vB true=r/\Chg (· = g) w w'/\Blk w' g [.pointer (some ⟨ge,0,none⟩)]/\Blk w ge [vI p,vI c]/\ge∈S/\inI p/\inI c):=by
  subst ho;obtain ⟨b,rfl,rfl,hbk,hp,hc⟩:=h;refine ⟨(as_hit ⟨b,0,none⟩ ⟨g,0,none⟩ (.pointer none) w (gl_err hG) (hb.at rfl)<|hb.free (i:=0) Nat.zero_lt_one).mono fun e w' ⟨he,hw⟩=>⟨_,he,b,rfl,?_,?_,hbk,List.mem_singleton.2 rfl,hp,hc⟩⟩
  · subst hw;exact as_chg hb
  · subst hw;exact as_blk hb
end
end Go.Vw
