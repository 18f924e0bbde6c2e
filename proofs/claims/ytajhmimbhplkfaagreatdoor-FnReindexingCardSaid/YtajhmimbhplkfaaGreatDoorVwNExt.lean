/- The package-level variables, and the library's functions that are called. -/
import Derived.Test.YtajhmimbhplkfaaGreatDoorVmA
import Derived.WalkKit
import Derived.LaidEql
import Derived.Stop.Asserts
import Derived.RowKitTokens
import Derived.Test.YtajhmimbhplkfaaGreatDoorShelf
set_option linter.unusedVariables false
namespace Go.Vw
open Go.RowKit Dat Go.Proofs
/-- What the variables hold. -/
def GD (w:World):Prop:=Lib.TabIs Tryz.prog w "internal/strconv.uint64pow10" .u64 Lib.pow10Tab∧w.cell? ⟨0,0,none⟩=some (.iface 292 (.agg #[.pointer (some ⟨4,223,none⟩)]))
abbrev Gl:World→Zone→Prop:=GlW 4 GD
theorem gl_err {w:World} {B:Zone} (h:Gl w B):w.cell? ⟨0,0,none⟩=some (.iface 292<|.agg #[.pointer (some ⟨4,223,none⟩)]):=h.cell (fun _ h=>h.2) (by decide)
theorem gl_tab {w:World} {B:Zone} (h:Gl w B):Lib.TabIs Tryz.prog w "internal/strconv.uint64pow10" .u64 Lib.pow10Tab:=h.tab (fun _ h=>h.1) (by kernel_rfl:Tryz.prog.globalNamed "internal/strconv.uint64pow10" = some 1) (by decide)
def m_F (w0:World) (B:Zone) (r:Str) (v:Value) (w':World):Prop:=Below w0.heap.size w0 w'∧(fun r1=>(Str.v r1)=v∧r1.b.length≤LEN) r
theorem m_G {B:Zone} {x1:Int} {res:Str} {w0:World} (hm:i_6 x1=some res) (hBw:B≤w0.heap.size) (hG:Gl w0 B) (p1_0:inI x1):o_ Tryz.prog 245 [vI x1] w0 (m_F w0 B res):=by
  obtain rfl:=som hm;exact (m_m<|Tryz.strconv_Itoa x1 (by unfold inI at p1_0;omega) (by unfold inI at p1_0;omega) w0<|gl_tab hG).mono fun v w' h=>⟨h.2,h.1,Nat.le_trans (Lib.itoa_length_le x1 (by unfold inI at p1_0;omega) (by unfold inI at p1_0;omega))<|Nat.le_of_ble_eq_true rfl⟩

section
open Go.Extern.Stop Go.Stop Go.Extern
/-! ### errors.As at one target type (after the kit's worked example) -/
theorem as_nil (t:Value) (w:World):Calls Tryz.prog 192 #[.nilIface,t] w fun e w'=>e = .returned (.bool false)∧w'=w:=by
  go_enter Tryz.func192,Tryz.ntmps192
  go_wp2
  go_ret
  exact ⟨rfl,rfl⟩
theorem m_H (t:Addr) (w:World):(ReflectliteValue.unpack<|.iface 228<|.pointer<|some t).run Tryz.prog w
    = .ok (.agg #[.pointer (some ⟨4,228,none⟩),.pointer<|some ⟨w.heap.size,0,none⟩,.int .u64 150]) (w.alloc<|.cells #[.pointer (some t)] 228):=by kernel_rfl
theorem m_I (a:Addr) (w:World):(ReflectliteValue.methodAny (ReflectliteValue.valueError "reflectlite.Value.Type" 0) (fun t _ _ _=>ReflectliteType.toType t) #[.agg #[.pointer (some ⟨4,228,none⟩),.pointer (some a),.int .u64 150]]).run Tryz.prog w
    = .ok (.iface 292<|.agg #[.pointer (some ⟨4,228,none⟩)]) w:=by kernel_rfl
theorem m_J (h:Value) (w:World):(Go.method 457 292 (.agg #[h]) "Kind").run Tryz.prog w = .ok (308,h) w:=by kernel_rfl
theorem m_K (w:World):((ReflectliteType.abiMethod fun t=>Functor.map (fun a:Nat=>Value.int IntKind.u8 (a:Int))<|Rtype.kind t) #[.pointer (some ⟨4,228,none⟩)]).run Tryz.prog w = .ok (.int .u8 22) w:=by kernel_rfl
theorem m_L (w:World):((ReflectliteType.abiMethod fun t=>Functor.map (fun a:Nat=>Value.int IntKind.u8 (a:Int))<|Rtype.kind t) #[.pointer (some ⟨4,226,none⟩)]).run Tryz.prog w = .ok (.int .u8 22) w:=by kernel_rfl
theorem k_2 (z:Sem Value) (f:TypeId→Addr→Nat→Nat→Sem Value) (v:Value) :
    ReflectliteValue.method z f #[v]=(do match ← ReflectliteValue.parts v with | none=>z | some (t,a,fl)=>f t a fl<|fl % 32):=rfl
theorem k_3 (a:Addr) (w:World):(ReflectliteValue.parts<|.agg #[.pointer (some ⟨4,228,none⟩),.pointer<|some a,.int .u64 150]).run Tryz.prog w = .ok (some (228,a,150)) w:=by kernel_rfl
theorem m_M (a p:Addr) (W:World) (ha:W.cell? a=some (.pointer<|some p)) :
    (ReflectliteValue.method (ReflectliteValue.valueError "reflectlite.Value.IsNil" 0) ReflectliteValue.isNil #[.agg #[.pointer (some ⟨4,228,none⟩),.pointer (some a),.int .u64 150]]).run Tryz.prog W = .ok (.bool false) W:=by
  rw [k_2]
  simp only [Sem.run_bind,k_3,Result.andThen]
  simp [ReflectliteValue.isNil,loadVar,isAgg,underlying,Tryz.underlying228,ha,Result.andThen]
theorem m_N (h:Value) (w:World):(Go.method 457 292 (.agg #[h]) "Elem").run Tryz.prog w = .ok (319,.agg #[h]) w:=by kernel_rfl
theorem m_O (h:Value) (w:World):(Go.method 457 292 (.agg #[h]) "Implements").run Tryz.prog w = .ok (320,.agg #[h]) w:=by kernel_rfl
theorem m_P (h:Value) (w:World):(Go.method 457 292 (.agg #[h]) "AssignableTo").run Tryz.prog w = .ok (317,.agg #[h]) w:=by kernel_rfl
theorem m_Q (w:World):(ReflectliteType.method ReflectliteType.elem #[.agg #[.pointer (some ⟨4,228,none⟩)]]).run Tryz.prog w = .ok (.iface 292<|.agg #[.pointer (some ⟨4,226,none⟩)]) w:=by kernel_rfl
theorem m_R (w:World):(ReflectliteType.relation "Implements" ReflectliteType.implements_ #[.agg #[.pointer (some ⟨4,226,none⟩)],.iface 292 (.agg #[.pointer (some ⟨4,223,none⟩)])]).run Tryz.prog w = .ok (.bool true) w:=by kernel_rfl
theorem m_S (v:Value) (w:World):(ReflectliteType.typeOf #[.iface 226 v]).run Tryz.prog w = .ok (.iface 292<|.agg #[.pointer (some ⟨4,226,none⟩)]) w:=by kernel_rfl
theorem m_T (w:World):(ReflectliteType.relation "AssignableTo" ReflectliteType.assignableTo #[.agg #[.pointer (some ⟨4,226,none⟩)],.iface 292 (.agg #[.pointer (some ⟨4,226,none⟩)])]).run Tryz.prog w = .ok (.bool true) w:=by kernel_rfl
theorem m_U (e:Addr) (w:World):(ReflectliteValue.unpack<|.iface 226<|.pointer<|some e).run Tryz.prog w
    = .ok (.agg #[.pointer (some ⟨4,226,none⟩),.pointer<|some ⟨w.heap.size,0,none⟩,.int .u64 150]) (w.alloc<|.cells #[.pointer (some e)] 226):=by kernel_rfl
theorem m_V (w:World):(Rtype.elem? 228).run Tryz.prog w = .ok (some 226) w:=by kernel_rfl
theorem m_W (p:Addr) (w:World):(ReflectliteValue.mk 226 p ReflectliteValue.flagAddr).run Tryz.prog w = .ok (.agg #[.pointer (some ⟨4,226,none⟩),.pointer<|some p,.int .u64 406]) w:=by kernel_rfl
theorem m_X (a p:Addr) (W:World) (ha:W.cell? a=some (.pointer<|some p)) :
    (ReflectliteValue.method (ReflectliteValue.valueError "reflectlite.Value.Elem" 0) ReflectliteValue.elem #[.agg #[.pointer (some ⟨4,228,none⟩),.pointer (some a),.int .u64 150]]).run Tryz.prog W
      = .ok (.agg #[.pointer (some ⟨4,226,none⟩),.pointer<|some p,.int .u64 406]) W:=by
  rw [k_2]
  simp only [Sem.run_bind,k_3,Result.andThen]
  simp [ReflectliteValue.elem,loadVar,isAgg,underlying,Tryz.underlying228,ha,Result.andThen,m_V,m_W]
theorem as_rls (v x:Value):ReflectliteValue.set #[v,x]=(do
    let (some (dst,a,fl),some (src,b,_)):=(← ReflectliteValue.parts v,← ReflectliteValue.parts x)
      | unsupported (.noEntry "extern/(internal/reflectlite.Value).Set.zeroValue")
    if fl / ReflectliteValue.flagAddr % 2==0 then unsupported (.noEntry "extern/(internal/reflectlite.Value).Set.unaddressable")
    let val ← loadVar src b
    if ← Rtype.directlyAssignable dst src then storeVar dst a val
    else if ← Rtype.implements dst src then
      if (← Rtype.kind src)==20 then
        match val with
        | .nilIface=>unsupported (.noEntry "extern/reflectlite: a nil value of one interface type handed on as a value of another")
        | _=>storeVar dst a val
      else storeVar dst a (.iface src val)
    else panicString ("reflectlite.Set: value of type " ++ (← Rtype.spelt src) ++ " is not assignable to type " ++ (← Rtype.spelt dst))
    pure (.tuple #[])):=rfl
theorem m_Y (a:Addr) (w:World):(ReflectliteValue.parts<|.agg #[.pointer (some ⟨4,226,none⟩),.pointer<|some a,.int .u64 406]).run Tryz.prog w = .ok (some (226,a,406)) w:=by kernel_rfl
theorem m_Z (a:Addr) (w:World):(ReflectliteValue.parts<|.agg #[.pointer (some ⟨4,226,none⟩),.pointer<|some a,.int .u64 150]).run Tryz.prog w = .ok (some (226,a,150)) w:=by kernel_rfl
theorem n_0 (w:World):(Rtype.directlyAssignable 226 226).run Tryz.prog w = .ok true w:=by kernel_rfl
theorem as_size25 (w:World):(sizeOf 226).run Tryz.prog w = .ok 1 w:=by kernel_rfl
theorem n_1 (ta b e:Addr) (old:Value) (W:World) (hb:W.cell? b=some (.pointer<|some e)) (ht:W.cell? ta=some old) (hf:W.frozen? ta=false) :
    (ReflectliteValue.set #[.agg #[.pointer (some ⟨4,226,none⟩),.pointer<|some ta,.int .u64 406],.agg #[.pointer (some ⟨4,226,none⟩),.pointer<|some b,.int .u64 150]]).run Tryz.prog W
      = .ok (.tuple #[]) (W.setCell ta<|.pointer<|some e):=by
  rw [as_rls]
  simp only [Sem.run_bind,m_Y,m_Z,Result.andThen]
  simp [ReflectliteValue.flagAddr,loadVar,isAgg,underlying,Tryz.underlying226,hb,Result.andThen,n_0,storeVar,Value.cells,storeCells,Addr.add]
  rw [run_store Tryz.prog W ta _ _ (by rfl)]
  simp [ht,hf]

set_option maxHeartbeats 4000000 in
theorem as_hit (e t:Addr) (old:Value) (w:World) (hg:w.cell? ⟨0,0,none⟩=some (.iface 292<|.agg #[.pointer (some ⟨4,223,none⟩)])) (ht0:w.cell? t=some old) (hf0:w.frozen? t=false) :
    Calls Tryz.prog 192 #[.iface 226 (.pointer<|some e),.iface 228<|.pointer<|some t] w fun ev w'=>ev = .returned (.bool true)∧w'=((((w.alloc<|.cells #[.pointer (some t)] 228).alloc (.cells #[.pointer (some ⟨4,228,none⟩),.pointer<|some ⟨w.heap.size,0,none⟩,.int .u64 150] 271)).alloc (.cells #[.pointer (some ⟨4,228,none⟩),.pointer<|some ⟨w.heap.size,0,none⟩,.int .u64 150] 271)).alloc (.cells #[.pointer (some e)] 226)).setCell t (.pointer<|some e):=by
  have h6:=@run_callFunc_extern Tryz.prog 234 _ (fun args=>ReflectliteValue.unpack (args.getD 0 (.tuple #[]))) Tryz.func234 (by kernel_rfl) (by kernel_rfl) (by kernel_rfl) (by kernel_rfl);have h7:=@run_callFunc_extern Tryz.prog 235 _ (ReflectliteValue.methodAny (ReflectliteValue.valueError "reflectlite.Value.Type" 0) (fun t _ _ _=>ReflectliteType.toType t)) Tryz.func235 (by kernel_rfl) (by kernel_rfl) (by kernel_rfl) (by kernel_rfl)
  have h8:=@run_callFunc_extern Tryz.prog 236 _ (ReflectliteValue.method (ReflectliteValue.valueError "reflectlite.Value.IsNil" 0) ReflectliteValue.isNil) Tryz.func236 (by kernel_rfl) (by kernel_rfl) (by kernel_rfl) (by kernel_rfl)
  have h27:=@run_callFunc_extern Tryz.prog 308 _ (ReflectliteType.abiMethod fun t=>do pure (.int .u8 (← Rtype.kind t))) Tryz.func308 (by kernel_rfl) (by kernel_rfl) (by kernel_rfl) (by kernel_rfl);have h37:=@run_callFunc_extern Tryz.prog 319 _ (ReflectliteType.method ReflectliteType.elem) Tryz.func319 (by kernel_rfl) (by kernel_rfl) (by kernel_rfl) (by kernel_rfl);have h38:=@run_callFunc_extern Tryz.prog 320 _ (ReflectliteType.relation "Implements" ReflectliteType.implements_) Tryz.func320 (by kernel_rfl) (by kernel_rfl) (by kernel_rfl) (by kernel_rfl)
  have h10:=@run_callFunc_extern Tryz.prog 264 _ ReflectliteType.typeOf Tryz.func264 (by kernel_rfl) (by kernel_rfl) (by kernel_rfl) (by kernel_rfl);have h35:=@run_callFunc_extern Tryz.prog 317 _ (ReflectliteType.relation "AssignableTo" ReflectliteType.assignableTo) Tryz.func317 (by kernel_rfl) (by kernel_rfl) (by kernel_rfl) (by kernel_rfl)
  have h11:=@run_callFunc_extern Tryz.prog 265 _ (ReflectliteValue.method (ReflectliteValue.valueError "reflectlite.Value.Elem" 0) ReflectliteValue.elem) Tryz.func265 (by kernel_rfl) (by kernel_rfl) (by kernel_rfl) (by kernel_rfl)
  have h12:=@run_callFunc_extern Tryz.prog 266 _ ReflectliteValue.set Tryz.func266 (by kernel_rfl) (by kernel_rfl) (by kernel_rfl) (by kernel_rfl);have tO:=m_S;have mA:=m_P;have a25:=m_T;have v25:=m_U;have f6:=m_H;have f7:=m_I;have mK:=m_J;have mE:=m_N;have mI:=m_O;have k27:=m_K;have k25:=m_L;have e27:=m_Q;have i25:=m_R;have n8:=m_M ⟨w.heap.size,0,none⟩ t ((w.alloc<|.cells #[.pointer (some t)] 228).alloc (.cells #[.pointer (some ⟨4,228,none⟩),.pointer<|some ⟨w.heap.size,0,none⟩,.int .u64 150] 271)) (by simp);have hlt:0<w.heap.size:=World.block_lt_of_cell? w _ hg
  have hg2:((w.alloc<|.cells #[.pointer (some t)] 228).alloc (.cells #[.pointer (some ⟨4,228,none⟩),.pointer<|some ⟨w.heap.size,0,none⟩,.int .u64 150] 271)).cell? ⟨0,0,none⟩=some (.iface 292<|.agg #[.pointer (some ⟨4,223,none⟩)]):=by
    rw [World.cell?_alloc_lt _ _ ⟨0,0,none⟩ (by simp <;> omega),World.cell?_alloc_lt _ _ ⟨0,0,none⟩ hlt];exact hg
  have htl:t.block<w.heap.size:=by
    rcases Nat.lt_or_ge t.block w.heap.size with h | h
    · exact h
    · simp [World.cell?,Array.getElem?_eq_none h] at ht0
  have el:=m_X ⟨w.heap.size,0,none⟩ t (((w.alloc<|.cells #[.pointer (some t)] 228).alloc (.cells #[.pointer (some ⟨4,228,none⟩),.pointer<|some ⟨w.heap.size,0,none⟩,.int .u64 150] 271)).alloc (.cells #[.pointer (some ⟨4,228,none⟩),.pointer<|some ⟨w.heap.size,0,none⟩,.int .u64 150] 271)) (by rw [World.cell?_alloc_lt _ _ ⟨w.heap.size,0,none⟩ (by simp;omega)];simp)
  have st:=n_1 t ⟨w.heap.size+1+1+1,0,none⟩ e old ((((w.alloc<|.cells #[.pointer (some t)] 228).alloc (.cells #[.pointer (some ⟨4,228,none⟩),.pointer<|some ⟨w.heap.size,0,none⟩,.int .u64 150] 271)).alloc (.cells #[.pointer (some ⟨4,228,none⟩),.pointer<|some ⟨w.heap.size,0,none⟩,.int .u64 150] 271)).alloc (.cells #[.pointer (some e)] 226))
    (by rw [World.cell?_alloc_at _ _ _ _ (by simp)];rfl)
    (by rw [World.cell?_alloc_lt _ _ t (by simp;omega),World.cell?_alloc_lt _ _ t (by simp;omega),World.cell?_alloc_lt _ _ t (by simp;omega),World.cell?_alloc_lt _ _ t htl];exact ht0)
    (by rw [World.frozen?_alloc_old _ _ t (by simp;omega),World.frozen?_alloc_old _ _ t (by simp;omega),World.frozen?_alloc_old _ _ t (by simp;omega),World.frozen?_alloc_old _ _ t<|Nat.ne_of_lt htl];exact hf0)
  go_enter Tryz.func192,Tryz.ntmps192
  go_wp2
  refine wp_loop_rounds 1 ?_
  rw [rounds_succ]
  go_wp2
  go_ret
  exact ⟨rfl,rfl⟩

theorem n_2 {S:List Nat} {v t:Value} {w:World} {o:Option (Int×Int)} (h:a_w 226 w S v o) (ho:o.isSome=false):o_ Tryz.prog 192 [v,t] w (fun r w'=>vB false=r∧Below w.heap.size w w'):=by
  cases o with
  | some _=>cases ho
  | none =>
  obtain ⟨rfl,_⟩:=h;exact ⟨(as_nil t w).mono fun e w' ⟨he,hw⟩=>⟨_,he,rfl,hw ▸ Below.refl _ _⟩⟩
theorem n_3 {S:List Nat} {v:Value} {w:World} {B:Zone} {g:Nat} {o:Option (Int×Int)} {p c:Int} (hG:Gl w B) (h:a_w 226 w S v o) (ho:o=some (p,c)) (hb:Blk w g [.pointer none]) :
    o_ Tryz.prog 192 [v,.iface 228<|.pointer<|some ⟨g,0,none⟩] w (fun r w'=>∃ ge,vB true=r∧Chg (· = g) w w'∧Blk w' g [.pointer (some ⟨ge,0,none⟩)]∧Blk w ge [vI p,vI c]∧ge∈S∧inI p∧inI c):=by
  subst ho;obtain ⟨b,rfl,rfl,hbk,hp,hc⟩:=h;refine ⟨(as_hit ⟨b,0,none⟩ ⟨g,0,none⟩ (.pointer none) w (gl_err hG) (hb.at rfl)<|hb.free (i:=0) Nat.zero_lt_one).mono fun e w' ⟨he,hw⟩=>⟨_,he,b,rfl,?_,?_,hbk,List.mem_singleton.2 rfl,hp,hc⟩⟩
  · subst hw;exact as_chg hb
  · subst hw;exact as_blk hb
end
end Go.Vw
