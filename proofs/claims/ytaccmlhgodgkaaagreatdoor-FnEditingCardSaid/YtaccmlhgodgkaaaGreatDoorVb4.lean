/- The package-level variables, and the library's functions that are called. -/
import Derived.Test.YtaccmlhgodgkaaaGreatDoorV0
import Derived.WalkKit
import Derived.LaidEql
import Derived.Stop.Asserts
import Derived.RowKitTokens
import Derived.Test.YtaccmlhgodgkaaaGreatDoorShelf
set_option linter.unusedVariables false
namespace Go.Vw
open Go.RowKit Dat Go.Proofs
/-- What the variables hold. -/
def GD (w:World):Prop:=Lib.TabIs Tryz.prog w "internal/strconv.uint64pow10" .u64 Lib.pow10Tab/\w.cell? ⟨0,0,none⟩=some (.iface 166 (.agg #[.pointer (some ⟨4,108,none⟩)]))
abbrev Gl:World->Zone->Prop:=GlW 4 GD
theorem gl_err {w:World}{B:Zone}(h:Gl w B):w.cell? ⟨0,0,none⟩=some (.iface 166<|.agg #[.pointer (some ⟨4,108,none⟩)]):=h.cell (λ_ h=>h.2) (by decide)
theorem gl_tab {w:World}{B:Zone}(h:Gl w B):Lib.TabIs Tryz.prog w "internal/strconv.uint64pow10" .u64 Lib.pow10Tab:=h.tab (λ_ h=>h.1) (by kernel_rfl:Tryz.prog.globalNamed "internal/strconv.uint64pow10" = some 1) (by decide)
def o_Q (w0:World)(B:Zone)(r:Str)(v:Value)(w':World):Prop:=Below w0.heap.size w0 w'/\(λG=>(Str.v G)=v/\G.b.length<=LEN) r
theorem o_R {B:Zone}{x1:Int}{res:Str}{w0:World}(hm:j_X x1=some res)(H:B<=w0.heap.size)(hG:Gl w0 B)(G:inI x1):p_ Tryz.prog 152 [vI x1] w0 (o_Q w0 B res):=by
  obtain rfl:=som hm;exact (o_F<|Tryz.strconv_Itoa x1 (by unfold inI at G;omega) (by unfold inI at G;omega) w0<|gl_tab hG).mono λv w' h=>⟨h.2,h.1,Nat.le_trans (Lib.itoa_length_le x1 (by unfold inI at G;omega) (by unfold inI at G;omega))<|Nat.le_of_ble_eq_true rfl⟩
section
open Go.Extern.Stop Go.Stop Go.Extern
/-! ### errors.As at one target type (after the kit's worked example) -/
theorem as_nil (t:Value)(w:World):Calls Tryz.prog 75 #[.nilIface,t] w λe w'=>e = .returned (.bool false)/\w'=w:=by
  go_enter Tryz.func75,Tryz.ntmps75
  go_wp2
  go_ret
  exact ⟨rfl,rfl⟩
theorem o_S (t:Addr)(w:World):(ReflectliteValue.unpack<|.iface 113<|.pointer<|some t).run Tryz.prog w
    = .ok (.agg #[.pointer (some ⟨4,113,none⟩),.pointer<|some ⟨w.heap.size,0,none⟩,.int .u64 150]) (w.alloc<|.cells #[.pointer (some t)] 113):=by kernel_rfl
theorem o_T (a:Addr)(w:World):(ReflectliteValue.methodAny (ReflectliteValue.valueError "reflectlite.Value.Type" 0) (λt _ _ _=>ReflectliteType.toType t) #[.agg #[.pointer (some ⟨4,113,none⟩),.pointer (some a),.int .u64 150]]).run Tryz.prog w
    = .ok (.iface 166<|.agg #[.pointer (some ⟨4,113,none⟩)]) w:=by kernel_rfl
theorem o_U (h:Value)(w:World):(Go.method 336 166 (.agg #[h]) "Kind").run Tryz.prog w = .ok (181,h) w:=by kernel_rfl
theorem o_V (w:World):((ReflectliteType.abiMethod λt=>Functor.map (λa:Nat=>Value.int IntKind.u8 (a:Int))<|Rtype.kind t) #[.pointer (some ⟨4,113,none⟩)]).run Tryz.prog w = .ok (.int .u8 22) w:=by kernel_rfl
theorem o_W (w:World):((ReflectliteType.abiMethod λt=>Functor.map (λa:Nat=>Value.int IntKind.u8 (a:Int))<|Rtype.kind t) #[.pointer (some ⟨4,111,none⟩)]).run Tryz.prog w = .ok (.int .u8 22) w:=by kernel_rfl
theorem l_X (z:Sem Value)(f:TypeId->Addr->Nat->Nat->Sem Value)(v:Value) :
    ReflectliteValue.method z f #[v]=(do match ← ReflectliteValue.parts v with | none=>z | some (t,a,fl)=>f t a fl<|fl % 32):=rfl
theorem l_Y (a:Addr)(w:World):(ReflectliteValue.parts<|.agg #[.pointer (some ⟨4,113,none⟩),.pointer<|some a,.int .u64 150]).run Tryz.prog w = .ok (some (113,a,150)) w:=by kernel_rfl
theorem o_X (a p:Addr)(W:World)(ha:W.cell? a=some (.pointer<|some p)) :
    (ReflectliteValue.method (ReflectliteValue.valueError "reflectlite.Value.IsNil" 0) ReflectliteValue.isNil #[.agg #[.pointer (some ⟨4,113,none⟩),.pointer (some a),.int .u64 150]]).run Tryz.prog W = .ok (.bool false) W:=by
  rw [l_X]
  simp only [Sem.run_bind,l_Y,Result.andThen]
  simp [ReflectliteValue.isNil,loadVar,isAgg,underlying,Tryz.underlying113,ha,Result.andThen]
theorem o_Y (h:Value)(w:World):(Go.method 336 166 (.agg #[h]) "Elem").run Tryz.prog w = .ok (191,.agg #[h]) w:=by kernel_rfl
theorem o_Z (h:Value)(w:World):(Go.method 336 166 (.agg #[h]) "Implements").run Tryz.prog w = .ok (192,.agg #[h]) w:=by kernel_rfl
theorem p_0 (h:Value)(w:World):(Go.method 336 166 (.agg #[h]) "AssignableTo").run Tryz.prog w = .ok (189,.agg #[h]) w:=by kernel_rfl
theorem p_1 (w:World):(ReflectliteType.method ReflectliteType.elem #[.agg #[.pointer (some ⟨4,113,none⟩)]]).run Tryz.prog w = .ok (.iface 166<|.agg #[.pointer (some ⟨4,111,none⟩)]) w:=by kernel_rfl
theorem p_2 (w:World):(ReflectliteType.relation "Implements" ReflectliteType.implements_ #[.agg #[.pointer (some ⟨4,111,none⟩)],.iface 166 (.agg #[.pointer (some ⟨4,108,none⟩)])]).run Tryz.prog w = .ok (.bool true) w:=by kernel_rfl
theorem p_3 (v:Value)(w:World):(ReflectliteType.typeOf #[.iface 111 v]).run Tryz.prog w = .ok (.iface 166<|.agg #[.pointer (some ⟨4,111,none⟩)]) w:=by kernel_rfl
theorem p_4 (w:World):(ReflectliteType.relation "AssignableTo" ReflectliteType.assignableTo #[.agg #[.pointer (some ⟨4,111,none⟩)],.iface 166 (.agg #[.pointer (some ⟨4,111,none⟩)])]).run Tryz.prog w = .ok (.bool true) w:=by kernel_rfl
theorem p_5 (e:Addr)(w:World):(ReflectliteValue.unpack<|.iface 111<|.pointer<|some e).run Tryz.prog w
    = .ok (.agg #[.pointer (some ⟨4,111,none⟩),.pointer<|some ⟨w.heap.size,0,none⟩,.int .u64 150]) (w.alloc<|.cells #[.pointer (some e)] 111):=by kernel_rfl
theorem p_6 (w:World):(Rtype.elem? 113).run Tryz.prog w = .ok (some 111) w:=by kernel_rfl
theorem p_7 (p:Addr)(w:World):(ReflectliteValue.mk 111 p ReflectliteValue.flagAddr).run Tryz.prog w = .ok (.agg #[.pointer (some ⟨4,111,none⟩),.pointer<|some p,.int .u64 406]) w:=by kernel_rfl
theorem p_8 (a p:Addr)(W:World)(ha:W.cell? a=some (.pointer<|some p)) :
    (ReflectliteValue.method (ReflectliteValue.valueError "reflectlite.Value.Elem" 0) ReflectliteValue.elem #[.agg #[.pointer (some ⟨4,113,none⟩),.pointer (some a),.int .u64 150]]).run Tryz.prog W
      = .ok (.agg #[.pointer (some ⟨4,111,none⟩),.pointer<|some p,.int .u64 406]) W:=by
  rw [l_X]
  simp only [Sem.run_bind,l_Y,Result.andThen]
  simp [ReflectliteValue.elem,loadVar,isAgg,underlying,Tryz.underlying113,ha,Result.andThen,p_6,p_7]
theorem as_rls (v x:Value):ReflectliteValue.set #[v,x]=(do
    let (some (dst,a,fl),some (src,b,_)):=(← ReflectliteValue.parts v,← ReflectliteValue.parts x)
      | unsupported (.noEntry "extern/(internal/reflectlite.Value).Set.zeroValue")
    if fl / ReflectliteValue.flagAddr % 2==0 then unsupported (.noEntry "extern/(internal/reflectlite.Value).Set.unaddressable")
    let val ← loadVar src b
    if ← Rtype.directlyAssignable dst src then storeVar dst a val
    else if ← Rtype.implements dst src then
      if (← Rtype.kind src)==20 then
        match val with
        | .nilIface=>unsupported (.noEntry "extern/reflectlite: a nil value of one interface type handed on as a value of another")
        | _=>storeVar dst a val
      else storeVar dst a (.iface src val)
    else panicString ("reflectlite.Set: value of type " ++ (← Rtype.spelt src) ++ " is not assignable to type " ++ (← Rtype.spelt dst))
    pure (.tuple #[])):=rfl
theorem p_9 (a:Addr)(w:World):(ReflectliteValue.parts<|.agg #[.pointer (some ⟨4,111,none⟩),.pointer<|some a,.int .u64 406]).run Tryz.prog w = .ok (some (111,a,406)) w:=by kernel_rfl
theorem p_a (a:Addr)(w:World):(ReflectliteValue.parts<|.agg #[.pointer (some ⟨4,111,none⟩),.pointer<|some a,.int .u64 150]).run Tryz.prog w = .ok (some (111,a,150)) w:=by kernel_rfl
theorem p_b (w:World):(Rtype.directlyAssignable 111 111).run Tryz.prog w = .ok true w:=by kernel_rfl
theorem as_size25 (w:World):(sizeOf 111).run Tryz.prog w = .ok 1 w:=by kernel_rfl
theorem p_c (ta b e:Addr)(old:Value)(W:World)(hb:W.cell? b=some (.pointer<|some e))(ht:W.cell? ta=some old)(hf:W.frozen? ta=false) :
    (ReflectliteValue.set #[.agg #[.pointer (some ⟨4,111,none⟩),.pointer<|some ta,.int .u64 406],.agg #[.pointer (some ⟨4,111,none⟩),.pointer<|some b,.int .u64 150]]).run Tryz.prog W
      = .ok (.tuple #[]) (W.setCell ta<|.pointer<|some e):=by
  rw [as_rls]
  simp only [Sem.run_bind,p_9,p_a,Result.andThen]
  simp [ReflectliteValue.flagAddr,loadVar,isAgg,underlying,Tryz.underlying111,hb,Result.andThen,p_b,storeVar,Value.cells,storeCells,Addr.add]
  rw [run_store Tryz.prog W ta _ _ (by rfl)]
  simp [ht,hf]
set_option maxHeartbeats 4000000 in
theorem as_hit (e t:Addr)(old:Value)(w:World)(hg:w.cell? ⟨0,0,none⟩=some (.iface 166<|.agg #[.pointer (some ⟨4,108,none⟩)]))(G:w.cell? t=some old)(H:w.frozen? t=false) :
    Calls Tryz.prog 75 #[.iface 111 (.pointer<|some e),.iface 113<|.pointer<|some t] w λev w'=>ev = .returned (.bool true)/\w'=((((w.alloc<|.cells #[.pointer (some t)] 113).alloc (.cells #[.pointer (some ⟨4,113,none⟩),.pointer<|some ⟨w.heap.size,0,none⟩,.int .u64 150] 146)).alloc (.cells #[.pointer (some ⟨4,113,none⟩),.pointer<|some ⟨w.heap.size,0,none⟩,.int .u64 150] 146)).alloc (.cells #[.pointer (some e)] 111)).setCell t (.pointer<|some e):=by
  have h6:=@run_callFunc_extern Tryz.prog 104 _ (λargs=>ReflectliteValue.unpack (args.getD 0 (.tuple #[]))) Tryz.func104 (by kernel_rfl) (by kernel_rfl) (by kernel_rfl) (by kernel_rfl);have h7:=@run_callFunc_extern Tryz.prog 105 _ (ReflectliteValue.methodAny (ReflectliteValue.valueError "reflectlite.Value.Type" 0) (λt _ _ _=>ReflectliteType.toType t)) Tryz.func105 (by kernel_rfl) (by kernel_rfl) (by kernel_rfl) (by kernel_rfl)
  have h8:=@run_callFunc_extern Tryz.prog 106 _ (ReflectliteValue.method (ReflectliteValue.valueError "reflectlite.Value.IsNil" 0) ReflectliteValue.isNil) Tryz.func106 (by kernel_rfl) (by kernel_rfl) (by kernel_rfl) (by kernel_rfl)
  have I:=@run_callFunc_extern Tryz.prog 181 _ (ReflectliteType.abiMethod λt=>do pure (.int .u8 (← Rtype.kind t))) Tryz.func181 (by kernel_rfl) (by kernel_rfl) (by kernel_rfl) (by kernel_rfl);have J:=@run_callFunc_extern Tryz.prog 191 _ (ReflectliteType.method ReflectliteType.elem) Tryz.func191 (by kernel_rfl) (by kernel_rfl) (by kernel_rfl) (by kernel_rfl);have L:=@run_callFunc_extern Tryz.prog 192 _ (ReflectliteType.relation "Implements" ReflectliteType.implements_) Tryz.func192 (by kernel_rfl) (by kernel_rfl) (by kernel_rfl) (by kernel_rfl)
  have O:=@run_callFunc_extern Tryz.prog 126 _ ReflectliteType.typeOf Tryz.func126 (by kernel_rfl) (by kernel_rfl) (by kernel_rfl) (by kernel_rfl);have V:=@run_callFunc_extern Tryz.prog 189 _ (ReflectliteType.relation "AssignableTo" ReflectliteType.assignableTo) Tryz.func189 (by kernel_rfl) (by kernel_rfl) (by kernel_rfl) (by kernel_rfl)
  have W:=@run_callFunc_extern Tryz.prog 127 _ (ReflectliteValue.method (ReflectliteValue.valueError "reflectlite.Value.Elem" 0) ReflectliteValue.elem) Tryz.func127 (by kernel_rfl) (by kernel_rfl) (by kernel_rfl) (by kernel_rfl)
  have Y:=@run_callFunc_extern Tryz.prog 128 _ ReflectliteValue.set Tryz.func128 (by kernel_rfl) (by kernel_rfl) (by kernel_rfl) (by kernel_rfl);have tO:=p_3;have mA:=p_0;have a0:=p_4;have a1:=p_5;have f6:=o_S;have f7:=o_T;have mK:=o_U;have mE:=o_Y;have mI:=o_Z;have a2:=o_V;have a3:=o_W;have a4:=p_1;have a5:=p_2;have n8:=o_X ⟨w.heap.size,0,none⟩ t ((w.alloc<|.cells #[.pointer (some t)] 113).alloc (.cells #[.pointer (some ⟨4,113,none⟩),.pointer<|some ⟨w.heap.size,0,none⟩,.int .u64 150] 146)) (by simp);have hlt:0<w.heap.size:=World.block_lt_of_cell? w _ hg
  have a6:((w.alloc<|.cells #[.pointer (some t)] 113).alloc (.cells #[.pointer (some ⟨4,113,none⟩),.pointer<|some ⟨w.heap.size,0,none⟩,.int .u64 150] 146)).cell? ⟨0,0,none⟩=some (.iface 166<|.agg #[.pointer (some ⟨4,108,none⟩)]):=by
    rw [World.cell?_alloc_lt _ _ ⟨0,0,none⟩ (by simp <;> omega),World.cell?_alloc_lt _ _ ⟨0,0,none⟩ hlt];exact hg
  have htl:t.block<w.heap.size:=by
    rcases Nat.lt_or_ge t.block w.heap.size with h | h
    . exact h
    . simp [World.cell?,Array.getElem?_eq_none h] at G
  have el:=p_8 ⟨w.heap.size,0,none⟩ t (((w.alloc<|.cells #[.pointer (some t)] 113).alloc (.cells #[.pointer (some ⟨4,113,none⟩),.pointer<|some ⟨w.heap.size,0,none⟩,.int .u64 150] 146)).alloc (.cells #[.pointer (some ⟨4,113,none⟩),.pointer<|some ⟨w.heap.size,0,none⟩,.int .u64 150] 146)) (by rw [World.cell?_alloc_lt _ _ ⟨w.heap.size,0,none⟩ (by simp;omega)];simp)
  have st:=p_c t ⟨w.heap.size+1+1+1,0,none⟩ e old ((((w.alloc<|.cells #[.pointer (some t)] 113).alloc (.cells #[.pointer (some ⟨4,113,none⟩),.pointer<|some ⟨w.heap.size,0,none⟩,.int .u64 150] 146)).alloc (.cells #[.pointer (some ⟨4,113,none⟩),.pointer<|some ⟨w.heap.size,0,none⟩,.int .u64 150] 146)).alloc (.cells #[.pointer (some e)] 111))
    (by rw [World.cell?_alloc_at _ _ _ _ (by simp)];rfl)
    (by rw [World.cell?_alloc_lt _ _ t (by simp;omega),World.cell?_alloc_lt _ _ t (by simp;omega),World.cell?_alloc_lt _ _ t (by simp;omega),World.cell?_alloc_lt _ _ t htl];exact G)
    (by rw [World.frozen?_alloc_old _ _ t (by simp;omega),World.frozen?_alloc_old _ _ t (by simp;omega),World.frozen?_alloc_old _ _ t (by simp;omega),World.frozen?_alloc_old _ _ t<|Nat.ne_of_lt htl];exact H)
  go_enter Tryz.func75,Tryz.ntmps75
  go_wp2
  refine wp_loop_rounds 1 ?_
  rw [rounds_succ]
  go_wp2
  go_ret
  exact ⟨rfl,rfl⟩
theorem p_d {S:List Nat}{v t:Value}{w:World}{o:Option (Int×Int)}(h:a_V 111 w S v o)(ho:o.isSome=false):p_ Tryz.prog 75 [v,t] w (λr w'=>vB false=r/\Below w.heap.size w w'):=by
  cases o with
  | some _=>cases ho
  | none =>
  obtain ⟨rfl,_⟩:=h;exact ⟨(as_nil t w).mono λe w' ⟨he,hw⟩=>⟨_,he,rfl,hw ▸ Below.refl _ _⟩⟩
theorem p_e {S:List Nat}{v:Value}{w:World}{B:Zone}{g:Nat}{o:Option (Int×Int)}{p c:Int}(hG:Gl w B)(h:a_V 111 w S v o)(ho:o=some (p,c))(hb:Blk w g [.pointer none]) :
    p_ Tryz.prog 75 [v,.iface 113<|.pointer<|some ⟨g,0,none⟩] w (λr w'=>∃ge,vB true=r/\Chg (· = g) w w'/\Blk w' g [.pointer (some ⟨ge,0,none⟩)]/\Blk w ge [vI p,vI c]/\ge∈S/\inI p/\inI c):=by
  subst ho;obtain ⟨b,rfl,rfl,hbk,hp,hc⟩:=h;refine ⟨(as_hit ⟨b,0,none⟩ ⟨g,0,none⟩ (.pointer none) w (gl_err hG) (hb.at rfl)<|hb.free (i:=0) Nat.zero_lt_one).mono λe w' ⟨he,hw⟩=>⟨_,he,b,rfl,?_,?_,hbk,List.mem_singleton.2 rfl,hp,hc⟩⟩
  . subst hw;exact as_chg hb
  . subst hw;exact as_blk hb
end
end Go.Vw
