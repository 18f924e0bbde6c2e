/- The package-level variables, and the library's functions that are called. -/
import Derived.Test.YtgpbbhplnbndeaaGreatDoorV0
import Derived.WalkKit
import Derived.LaidEql
import Derived.Stop.Asserts
import Derived.RowKitTokens
import Derived.Test.YtgpbbhplnbndeaaGreatDoorShelf
set_option linter.unusedVariables false
namespace Go.Vw
open Go.RowKit Dat Go.Proofs
/-- What the variables hold. -/
def GD (w:World):Prop:=Lib.TabIs Tryz.prog w "internal/strconv.uint64pow10" .u64 Lib.pow10Tab/\w.cell? ⟨0,0,none⟩=some (.iface 184 (.agg #[.pointer (some ⟨4,140,none⟩)]))
abbrev Gl:World->Zone->Prop:=GlW 4 GD
theorem gl_err {w:World}{B:Zone}(h:Gl w B):w.cell? ⟨0,0,none⟩=some (.iface 184<|.agg #[.pointer (some ⟨4,140,none⟩)]):=h.cell (λ_ h=>h.2) (by decide)
theorem gl_tab {w:World}{B:Zone}(h:Gl w B):Lib.TabIs Tryz.prog w "internal/strconv.uint64pow10" .u64 Lib.pow10Tab:=h.tab (λ_ h=>h.1) (by kernel_rfl:Tryz.prog.globalNamed "internal/strconv.uint64pow10" = some 1) (by decide)
def o_H (w0:World)(B:Zone)(r:Str)(v:Value)(w':World):Prop:=Below w0.heap.size w0 w'/\(λr1=>(Str.v r1)=v/\r1.b.length<=LEN) r
theorem o_I {B:Zone}{x1:Int}{res:Str}{w0:World}(hm:j_P x1=some res)(H:B<=w0.heap.size)(hG:Gl w0 B)(G:inI x1):g_ Tryz.prog 152 [vI x1] w0 (o_H w0 B res):=by
  obtain rfl:=som hm;exact (o_r<|Tryz.strconv_Itoa x1 (by unfold inI at G;omega) (by unfold inI at G;omega) w0<|gl_tab hG).mono λv w' h=>⟨h.2,h.1,Nat.le_trans (Lib.itoa_length_le x1 (by unfold inI at G;omega) (by unfold inI at G;omega))<|Nat.le_of_ble_eq_true rfl⟩
section
open Go.Extern.Stop Go.Stop Go.Extern
/-! ### errors.As at one target type (after the kit's worked example) -/
theorem as_nil (t:Value)(w:World):Calls Tryz.prog 118 #[.nilIface,t] w λe w'=>e = .returned (.bool false)/\w'=w:=by
  go_enter Tryz.func118,Tryz.ntmps118
  go_wp2
  go_ret
  exact ⟨rfl,rfl⟩
theorem o_J (t:Addr)(w:World):(ReflectliteValue.unpack<|.iface 145<|.pointer<|some t).run Tryz.prog w
    = .ok (.agg #[.pointer (some ⟨4,145,none⟩),.pointer<|some ⟨w.heap.size,0,none⟩,.int .u64 150]) (w.alloc<|.cells #[.pointer (some t)] 145):=by kernel_rfl
theorem o_K (a:Addr)(w:World):(ReflectliteValue.methodAny (ReflectliteValue.valueError "reflectlite.Value.Type" 0) (λt _ _ _=>ReflectliteType.toType t) #[.agg #[.pointer (some ⟨4,145,none⟩),.pointer (some a),.int .u64 150]]).run Tryz.prog w
    = .ok (.iface 184<|.agg #[.pointer (some ⟨4,145,none⟩)]) w:=by kernel_rfl
theorem o_L (h:Value)(w:World):(Go.method 342 184 (.agg #[h]) "Kind").run Tryz.prog w = .ok (189,h) w:=by kernel_rfl
theorem o_M (w:World):((ReflectliteType.abiMethod λt=>Functor.map (λa:Nat=>Value.int IntKind.u8 (a:Int))<|Rtype.kind t) #[.pointer (some ⟨4,145,none⟩)]).run Tryz.prog w = .ok (.int .u8 22) w:=by kernel_rfl
theorem o_N (w:World):((ReflectliteType.abiMethod λt=>Functor.map (λa:Nat=>Value.int IntKind.u8 (a:Int))<|Rtype.kind t) #[.pointer (some ⟨4,143,none⟩)]).run Tryz.prog w = .ok (.int .u8 22) w:=by kernel_rfl
theorem l_F (z:Sem Value)(f:TypeId->Addr->Nat->Nat->Sem Value)(v:Value) :
    ReflectliteValue.method z f #[v]=(do match ← ReflectliteValue.parts v with | none=>z | some (t,a,fl)=>f t a fl<|fl % 32):=rfl
theorem l_G (a:Addr)(w:World):(ReflectliteValue.parts<|.agg #[.pointer (some ⟨4,145,none⟩),.pointer<|some a,.int .u64 150]).run Tryz.prog w = .ok (some (145,a,150)) w:=by kernel_rfl
theorem o_O (a p:Addr)(W:World)(ha:W.cell? a=some (.pointer<|some p)) :
    (ReflectliteValue.method (ReflectliteValue.valueError "reflectlite.Value.IsNil" 0) ReflectliteValue.isNil #[.agg #[.pointer (some ⟨4,145,none⟩),.pointer (some a),.int .u64 150]]).run Tryz.prog W = .ok (.bool false) W:=by
  rw [l_F]
  simp only [Sem.run_bind,l_G,Result.andThen]
  simp [ReflectliteValue.isNil,loadVar,isAgg,underlying,Tryz.underlying145,ha,Result.andThen]
theorem o_P (h:Value)(w:World):(Go.method 342 184 (.agg #[h]) "Elem").run Tryz.prog w = .ok (199,.agg #[h]) w:=by kernel_rfl
theorem o_Q (h:Value)(w:World):(Go.method 342 184 (.agg #[h]) "Implements").run Tryz.prog w = .ok (200,.agg #[h]) w:=by kernel_rfl
theorem o_R (h:Value)(w:World):(Go.method 342 184 (.agg #[h]) "AssignableTo").run Tryz.prog w = .ok (197,.agg #[h]) w:=by kernel_rfl
theorem o_S (w:World):(ReflectliteType.method ReflectliteType.elem #[.agg #[.pointer (some ⟨4,145,none⟩)]]).run Tryz.prog w = .ok (.iface 184<|.agg #[.pointer (some ⟨4,143,none⟩)]) w:=by kernel_rfl
theorem o_T (w:World):(ReflectliteType.relation "Implements" ReflectliteType.implements_ #[.agg #[.pointer (some ⟨4,143,none⟩)],.iface 184 (.agg #[.pointer (some ⟨4,140,none⟩)])]).run Tryz.prog w = .ok (.bool true) w:=by kernel_rfl
theorem o_U (v:Value)(w:World):(ReflectliteType.typeOf #[.iface 143 v]).run Tryz.prog w = .ok (.iface 184<|.agg #[.pointer (some ⟨4,143,none⟩)]) w:=by kernel_rfl
theorem o_V (w:World):(ReflectliteType.relation "AssignableTo" ReflectliteType.assignableTo #[.agg #[.pointer (some ⟨4,143,none⟩)],.iface 184 (.agg #[.pointer (some ⟨4,143,none⟩)])]).run Tryz.prog w = .ok (.bool true) w:=by kernel_rfl
theorem o_W (e:Addr)(w:World):(ReflectliteValue.unpack<|.iface 143<|.pointer<|some e).run Tryz.prog w
    = .ok (.agg #[.pointer (some ⟨4,143,none⟩),.pointer<|some ⟨w.heap.size,0,none⟩,.int .u64 150]) (w.alloc<|.cells #[.pointer (some e)] 143):=by kernel_rfl
theorem o_X (w:World):(Rtype.elem? 145).run Tryz.prog w = .ok (some 143) w:=by kernel_rfl
theorem o_Y (p:Addr)(w:World):(ReflectliteValue.mk 143 p ReflectliteValue.flagAddr).run Tryz.prog w = .ok (.agg #[.pointer (some ⟨4,143,none⟩),.pointer<|some p,.int .u64 406]) w:=by kernel_rfl
theorem o_Z (a p:Addr)(W:World)(ha:W.cell? a=some (.pointer<|some p)) :
    (ReflectliteValue.method (ReflectliteValue.valueError "reflectlite.Value.Elem" 0) ReflectliteValue.elem #[.agg #[.pointer (some ⟨4,145,none⟩),.pointer (some a),.int .u64 150]]).run Tryz.prog W
      = .ok (.agg #[.pointer (some ⟨4,143,none⟩),.pointer<|some p,.int .u64 406]) W:=by
  rw [l_F]
  simp only [Sem.run_bind,l_G,Result.andThen]
  simp [ReflectliteValue.elem,loadVar,isAgg,underlying,Tryz.underlying145,ha,Result.andThen,o_X,o_Y]
theorem as_rls (v x:Value):ReflectliteValue.set #[v,x]=(do
    let (some (dst,a,fl),some (src,b,_)):=(← ReflectliteValue.parts v,← ReflectliteValue.parts x)
      | unsupported (.noEntry "extern/(internal/reflectlite.Value).Set.zeroValue")
    if fl / ReflectliteValue.flagAddr % 2==0 then unsupported (.noEntry "extern/(internal/reflectlite.Value).Set.unaddressable")
    let val ← loadVar src b
    if ← Rtype.directlyAssignable dst src then storeVar dst a val
    else if ← Rtype.implements dst src then
      if (← Rtype.kind src)==20 then
        match val with
        | .nilIface=>unsupported (.noEntry "extern/reflectlite: a nil value of one interface type handed on as a value of another")
        | _=>storeVar dst a val
      else storeVar dst a (.iface src val)
    else panicString ("reflectlite.Set: value of type " ++ (← Rtype.spelt src) ++ " is not assignable to type " ++ (← Rtype.spelt dst))
    pure (.tuple #[])):=rfl
theorem p_0 (a:Addr)(w:World):(ReflectliteValue.parts<|.agg #[.pointer (some ⟨4,143,none⟩),.pointer<|some a,.int .u64 406]).run Tryz.prog w = .ok (some (143,a,406)) w:=by kernel_rfl
theorem p_1 (a:Addr)(w:World):(ReflectliteValue.parts<|.agg #[.pointer (some ⟨4,143,none⟩),.pointer<|some a,.int .u64 150]).run Tryz.prog w = .ok (some (143,a,150)) w:=by kernel_rfl
theorem p_2 (w:World):(Rtype.directlyAssignable 143 143).run Tryz.prog w = .ok true w:=by kernel_rfl
theorem as_size25 (w:World):(sizeOf 143).run Tryz.prog w = .ok 1 w:=by kernel_rfl
theorem p_3 (ta b e:Addr)(old:Value)(W:World)(hb:W.cell? b=some (.pointer<|some e))(ht:W.cell? ta=some old)(hf:W.frozen? ta=false) :
    (ReflectliteValue.set #[.agg #[.pointer (some ⟨4,143,none⟩),.pointer<|some ta,.int .u64 406],.agg #[.pointer (some ⟨4,143,none⟩),.pointer<|some b,.int .u64 150]]).run Tryz.prog W
      = .ok (.tuple #[]) (W.setCell ta<|.pointer<|some e):=by
  rw [as_rls]
  simp only [Sem.run_bind,p_0,p_1,Result.andThen]
  simp [ReflectliteValue.flagAddr,loadVar,isAgg,underlying,Tryz.underlying143,hb,Result.andThen,p_2,storeVar,Value.cells,storeCells,Addr.add]
  rw [run_store Tryz.prog W ta _ _ (by rfl)]
  simp [ht,hf]
set_option maxHeartbeats 4000000 in
theorem as_hit (e t:Addr)(old:Value)(w:World)(hg:w.cell? ⟨0,0,none⟩=some (.iface 184<|.agg #[.pointer (some ⟨4,140,none⟩)]))(G:w.cell? t=some old)(H:w.frozen? t=false) :
    Calls Tryz.prog 118 #[.iface 143 (.pointer<|some e),.iface 145<|.pointer<|some t] w λev w'=>ev = .returned (.bool true)/\w'=((((w.alloc<|.cells #[.pointer (some t)] 145).alloc (.cells #[.pointer (some ⟨4,145,none⟩),.pointer<|some ⟨w.heap.size,0,none⟩,.int .u64 150] 168)).alloc (.cells #[.pointer (some ⟨4,145,none⟩),.pointer<|some ⟨w.heap.size,0,none⟩,.int .u64 150] 168)).alloc (.cells #[.pointer (some e)] 143)).setCell t (.pointer<|some e):=by
  have h6:=@run_callFunc_extern Tryz.prog 141 _ (λargs=>ReflectliteValue.unpack (args.getD 0 (.tuple #[]))) Tryz.func141 (by kernel_rfl) (by kernel_rfl) (by kernel_rfl) (by kernel_rfl);have h7:=@run_callFunc_extern Tryz.prog 142 _ (ReflectliteValue.methodAny (ReflectliteValue.valueError "reflectlite.Value.Type" 0) (λt _ _ _=>ReflectliteType.toType t)) Tryz.func142 (by kernel_rfl) (by kernel_rfl) (by kernel_rfl) (by kernel_rfl)
  have h8:=@run_callFunc_extern Tryz.prog 143 _ (ReflectliteValue.method (ReflectliteValue.valueError "reflectlite.Value.IsNil" 0) ReflectliteValue.isNil) Tryz.func143 (by kernel_rfl) (by kernel_rfl) (by kernel_rfl) (by kernel_rfl)
  have I:=@run_callFunc_extern Tryz.prog 189 _ (ReflectliteType.abiMethod λt=>do pure (.int .u8 (← Rtype.kind t))) Tryz.func189 (by kernel_rfl) (by kernel_rfl) (by kernel_rfl) (by kernel_rfl);have J:=@run_callFunc_extern Tryz.prog 199 _ (ReflectliteType.method ReflectliteType.elem) Tryz.func199 (by kernel_rfl) (by kernel_rfl) (by kernel_rfl) (by kernel_rfl);have L:=@run_callFunc_extern Tryz.prog 200 _ (ReflectliteType.relation "Implements" ReflectliteType.implements_) Tryz.func200 (by kernel_rfl) (by kernel_rfl) (by kernel_rfl) (by kernel_rfl)
  have O:=@run_callFunc_extern Tryz.prog 158 _ ReflectliteType.typeOf Tryz.func158 (by kernel_rfl) (by kernel_rfl) (by kernel_rfl) (by kernel_rfl);have V:=@run_callFunc_extern Tryz.prog 197 _ (ReflectliteType.relation "AssignableTo" ReflectliteType.assignableTo) Tryz.func197 (by kernel_rfl) (by kernel_rfl) (by kernel_rfl) (by kernel_rfl)
  have W:=@run_callFunc_extern Tryz.prog 159 _ (ReflectliteValue.method (ReflectliteValue.valueError "reflectlite.Value.Elem" 0) ReflectliteValue.elem) Tryz.func159 (by kernel_rfl) (by kernel_rfl) (by kernel_rfl) (by kernel_rfl)
  have Y:=@run_callFunc_extern Tryz.prog 160 _ ReflectliteValue.set Tryz.func160 (by kernel_rfl) (by kernel_rfl) (by kernel_rfl) (by kernel_rfl);have tO:=o_U;have mA:=o_R;have a0:=o_V;have a1:=o_W;have f6:=o_J;have f7:=o_K;have mK:=o_L;have mE:=o_P;have mI:=o_Q;have a2:=o_M;have a3:=o_N;have a4:=o_S;have a5:=o_T;have n8:=o_O ⟨w.heap.size,0,none⟩ t ((w.alloc<|.cells #[.pointer (some t)] 145).alloc (.cells #[.pointer (some ⟨4,145,none⟩),.pointer<|some ⟨w.heap.size,0,none⟩,.int .u64 150] 168)) (by simp);have hlt:0<w.heap.size:=World.block_lt_of_cell? w _ hg
  have a6:((w.alloc<|.cells #[.pointer (some t)] 145).alloc (.cells #[.pointer (some ⟨4,145,none⟩),.pointer<|some ⟨w.heap.size,0,none⟩,.int .u64 150] 168)).cell? ⟨0,0,none⟩=some (.iface 184<|.agg #[.pointer (some ⟨4,140,none⟩)]):=by
    rw [World.cell?_alloc_lt _ _ ⟨0,0,none⟩ (by simp <;> omega),World.cell?_alloc_lt _ _ ⟨0,0,none⟩ hlt];exact hg
  have htl:t.block<w.heap.size:=by
    rcases Nat.lt_or_ge t.block w.heap.size with h | h
    . exact h
    . simp [World.cell?,Array.getElem?_eq_none h] at G
  have el:=o_Z ⟨w.heap.size,0,none⟩ t (((w.alloc<|.cells #[.pointer (some t)] 145).alloc (.cells #[.pointer (some ⟨4,145,none⟩),.pointer<|some ⟨w.heap.size,0,none⟩,.int .u64 150] 168)).alloc (.cells #[.pointer (some ⟨4,145,none⟩),.pointer<|some ⟨w.heap.size,0,none⟩,.int .u64 150] 168)) (by rw [World.cell?_alloc_lt _ _ ⟨w.heap.size,0,none⟩ (by simp;omega)];simp)
  have st:=p_3 t ⟨w.heap.size+1+1+1,0,none⟩ e old ((((w.alloc<|.cells #[.pointer (some t)] 145).alloc (.cells #[.pointer (some ⟨4,145,none⟩),.pointer<|some ⟨w.heap.size,0,none⟩,.int .u64 150] 168)).alloc (.cells #[.pointer (some ⟨4,145,none⟩),.pointer<|some ⟨w.heap.size,0,none⟩,.int .u64 150] 168)).alloc (.cells #[.pointer (some e)] 143))
    (by rw [World.cell?_alloc_at _ _ _ _ (by simp)];rfl)
    (by rw [World.cell?_alloc_lt _ _ t (by simp;omega),World.cell?_alloc_lt _ _ t (by simp;omega),World.cell?_alloc_lt _ _ t (by simp;omega),World.cell?_alloc_lt _ _ t htl];exact G)
    (by rw [World.frozen?_alloc_old _ _ t (by simp;omega),World.frozen?_alloc_old _ _ t (by simp;omega),World.frozen?_alloc_old _ _ t (by simp;omega),World.frozen?_alloc_old _ _ t<|Nat.ne_of_lt htl];exact H)
  go_enter Tryz.func118,Tryz.ntmps118
  go_wp2
  refine wp_loop_rounds 1 ?_
  rw [rounds_succ]
  go_wp2
  go_ret
  exact ⟨rfl,rfl⟩
theorem p_4 {S:List Nat}{v t:Value}{w:World}{o:Option (Int×Int)}(h:a_s 143 w S v o)(ho:o.isSome=false):g_ Tryz.prog 118 [v,t] w (λr w'=>vB false=r/\Below w.heap.size w w'):=by
  cases o with
  | some _=>cases ho
  | none =>
  obtain ⟨rfl,_⟩:=h;exact ⟨(as_nil t w).mono λe w' ⟨he,hw⟩=>⟨_,he,rfl,hw ▸ Below.refl _ _⟩⟩
theorem p_5 {S:List Nat}{v:Value}{w:World}{B:Zone}{g:Nat}{o:Option (Int×Int)}{p c:Int}(hG:Gl w B)(h:a_s 143 w S v o)(ho:o=some (p,c))(hb:Blk w g [.pointer none]) :
    g_ Tryz.prog 118 [v,.iface 145<|.pointer<|some ⟨g,0,none⟩] w (λr w'=>∃ge,vB true=r/\Chg (· = g) w w'/\Blk w' g [.pointer (some ⟨ge,0,none⟩)]/\Blk w ge [vI p,vI c]/\ge∈S/\inI p/\inI c):=by
  subst ho;obtain ⟨b,rfl,rfl,hbk,hp,hc⟩:=h;refine ⟨(as_hit ⟨b,0,none⟩ ⟨g,0,none⟩ (.pointer none) w (gl_err hG) (hb.at rfl)<|hb.free (i:=0) Nat.zero_lt_one).mono λe w' ⟨he,hw⟩=>⟨_,he,b,rfl,?_,?_,hbk,List.mem_singleton.2 rfl,hp,hc⟩⟩
  . subst hw;exact as_chg hb
  . subst hw;exact as_blk hb
end
end Go.Vw
