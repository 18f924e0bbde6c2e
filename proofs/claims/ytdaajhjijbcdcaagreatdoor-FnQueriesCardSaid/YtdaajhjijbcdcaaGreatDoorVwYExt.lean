/- The package-level variables, and the library's functions that are called. -/
import Derived.Test.YtdaajhjijbcdcaaGreatDoorVmA
import Derived.WalkKit
import Derived.LaidEql
import Derived.Stop.Asserts
import Derived.RowKitTokens
import Derived.Test.YtdaajhjijbcdcaaGreatDoorShelf
set_option linter.unusedVariables false
namespace Go.Vw
open Go.RowKit Dat Go.Proofs
/-- What the variables hold. -/
def GD (w:World):Prop:=Lib.TabIs Tryz.prog w "internal/strconv.uint64pow10" .u64 Lib.pow10Tab/\w.cell? ⟨0,0,none⟩=some (.iface 173 (.agg #[.pointer (some ⟨4,125,none⟩)]))
abbrev Gl:World->Zone->Prop:=GlW 4 GD
theorem gl_err {w:World}{B:Zone}(h:Gl w B):w.cell? ⟨0,0,none⟩=some (.iface 173<|.agg #[.pointer (some ⟨4,125,none⟩)]):=h.cell (λ_ h=>h.2) (by decide)
theorem gl_tab {w:World}{B:Zone}(h:Gl w B):Lib.TabIs Tryz.prog w "internal/strconv.uint64pow10" .u64 Lib.pow10Tab:=h.tab (λ_ h=>h.1) (by kernel_rfl:Tryz.prog.globalNamed "internal/strconv.uint64pow10" = some 1) (by decide)
def q_P (w0:World)(B:Zone)(r:Str)(v:Value)(w':World):Prop:=Below w0.heap.size w0 w'/\(λG=>(Str.v G)=v/\G.b.length<=LEN) r
theorem q_Q {B:Zone}{x1:Int}{res:Str}{w0:World}(hm:j_K x1=some res)(H:B<=w0.heap.size)(hG:Gl w0 B)(G:inI x1):r_ Tryz.prog 120 [vI x1] w0 (q_P w0 B res):=by
  obtain rfl:=som hm;exact (o_w<|Tryz.strconv_Itoa x1 (by unfold inI at G;omega) (by unfold inI at G;omega) w0<|gl_tab hG).mono λv w' h=>⟨h.2,h.1,Nat.le_trans (Lib.itoa_length_le x1 (by unfold inI at G;omega) (by unfold inI at G;omega))<|Nat.le_of_ble_eq_true rfl⟩
section
open Go.Extern.Stop Go.Stop Go.Extern
/-! ### errors.As at one target type (after the kit's worked example) -/
theorem as_nil (t:Value)(w:World):Calls Tryz.prog 88 #[.nilIface,t] w λe w'=>e = .returned (.bool false)/\w'=w:=by
  go_enter Tryz.func88,Tryz.ntmps88
  go_wp2
  go_ret
  exact ⟨rfl,rfl⟩
theorem q_R (t:Addr)(w:World):(ReflectliteValue.unpack<|.iface 130<|.pointer<|some t).run Tryz.prog w
    = .ok (.agg #[.pointer (some ⟨4,130,none⟩),.pointer<|some ⟨w.heap.size,0,none⟩,.int .u64 150]) (w.alloc<|.cells #[.pointer (some t)] 130):=by kernel_rfl
theorem q_S (a:Addr)(w:World):(ReflectliteValue.methodAny (ReflectliteValue.valueError "reflectlite.Value.Type" 0) (λt _ _ _=>ReflectliteType.toType t) #[.agg #[.pointer (some ⟨4,130,none⟩),.pointer (some a),.int .u64 150]]).run Tryz.prog w
    = .ok (.iface 173<|.agg #[.pointer (some ⟨4,130,none⟩)]) w:=by kernel_rfl
theorem q_T (h:Value)(w:World):(Go.method 333 173 (.agg #[h]) "Kind").run Tryz.prog w = .ok (168,h) w:=by kernel_rfl
theorem q_U (w:World):((ReflectliteType.abiMethod λt=>Functor.map (λa:Nat=>Value.int IntKind.u8 (a:Int))<|Rtype.kind t) #[.pointer (some ⟨4,130,none⟩)]).run Tryz.prog w = .ok (.int .u8 22) w:=by kernel_rfl
theorem q_V (w:World):((ReflectliteType.abiMethod λt=>Functor.map (λa:Nat=>Value.int IntKind.u8 (a:Int))<|Rtype.kind t) #[.pointer (some ⟨4,128,none⟩)]).run Tryz.prog w = .ok (.int .u8 22) w:=by kernel_rfl
theorem n_i (z:Sem Value)(f:TypeId->Addr->Nat->Nat->Sem Value)(v:Value) :
    ReflectliteValue.method z f #[v]=(do match ← ReflectliteValue.parts v with | none=>z | some (t,a,fl)=>f t a fl<|fl % 32):=rfl
theorem n_j (a:Addr)(w:World):(ReflectliteValue.parts<|.agg #[.pointer (some ⟨4,130,none⟩),.pointer<|some a,.int .u64 150]).run Tryz.prog w = .ok (some (130,a,150)) w:=by kernel_rfl
theorem q_W (a p:Addr)(W:World)(ha:W.cell? a=some (.pointer<|some p)) :
    (ReflectliteValue.method (ReflectliteValue.valueError "reflectlite.Value.IsNil" 0) ReflectliteValue.isNil #[.agg #[.pointer (some ⟨4,130,none⟩),.pointer (some a),.int .u64 150]]).run Tryz.prog W = .ok (.bool false) W:=by
  rw [n_i]
  simp only [Sem.run_bind,n_j,Result.andThen]
  simp [ReflectliteValue.isNil,loadVar,isAgg,underlying,Tryz.underlying130,ha,Result.andThen]
theorem q_X (h:Value)(w:World):(Go.method 333 173 (.agg #[h]) "Elem").run Tryz.prog w = .ok (178,.agg #[h]) w:=by kernel_rfl
theorem q_Y (h:Value)(w:World):(Go.method 333 173 (.agg #[h]) "Implements").run Tryz.prog w = .ok (179,.agg #[h]) w:=by kernel_rfl
theorem q_Z (h:Value)(w:World):(Go.method 333 173 (.agg #[h]) "AssignableTo").run Tryz.prog w = .ok (176,.agg #[h]) w:=by kernel_rfl
theorem r_0 (w:World):(ReflectliteType.method ReflectliteType.elem #[.agg #[.pointer (some ⟨4,130,none⟩)]]).run Tryz.prog w = .ok (.iface 173<|.agg #[.pointer (some ⟨4,128,none⟩)]) w:=by kernel_rfl
theorem r_1 (w:World):(ReflectliteType.relation "Implements" ReflectliteType.implements_ #[.agg #[.pointer (some ⟨4,128,none⟩)],.iface 173 (.agg #[.pointer (some ⟨4,125,none⟩)])]).run Tryz.prog w = .ok (.bool true) w:=by kernel_rfl
theorem r_2 (v:Value)(w:World):(ReflectliteType.typeOf #[.iface 128 v]).run Tryz.prog w = .ok (.iface 173<|.agg #[.pointer (some ⟨4,128,none⟩)]) w:=by kernel_rfl
theorem r_3 (w:World):(ReflectliteType.relation "AssignableTo" ReflectliteType.assignableTo #[.agg #[.pointer (some ⟨4,128,none⟩)],.iface 173 (.agg #[.pointer (some ⟨4,128,none⟩)])]).run Tryz.prog w = .ok (.bool true) w:=by kernel_rfl
theorem r_4 (e:Addr)(w:World):(ReflectliteValue.unpack<|.iface 128<|.pointer<|some e).run Tryz.prog w
    = .ok (.agg #[.pointer (some ⟨4,128,none⟩),.pointer<|some ⟨w.heap.size,0,none⟩,.int .u64 150]) (w.alloc<|.cells #[.pointer (some e)] 128):=by kernel_rfl
theorem r_5 (w:World):(Rtype.elem? 130).run Tryz.prog w = .ok (some 128) w:=by kernel_rfl
theorem r_6 (p:Addr)(w:World):(ReflectliteValue.mk 128 p ReflectliteValue.flagAddr).run Tryz.prog w = .ok (.agg #[.pointer (some ⟨4,128,none⟩),.pointer<|some p,.int .u64 406]) w:=by kernel_rfl
theorem r_7 (a p:Addr)(W:World)(ha:W.cell? a=some (.pointer<|some p)) :
    (ReflectliteValue.method (ReflectliteValue.valueError "reflectlite.Value.Elem" 0) ReflectliteValue.elem #[.agg #[.pointer (some ⟨4,130,none⟩),.pointer (some a),.int .u64 150]]).run Tryz.prog W
      = .ok (.agg #[.pointer (some ⟨4,128,none⟩),.pointer<|some p,.int .u64 406]) W:=by
  rw [n_i]
  simp only [Sem.run_bind,n_j,Result.andThen]
  simp [ReflectliteValue.elem,loadVar,isAgg,underlying,Tryz.underlying130,ha,Result.andThen,r_5,r_6]
theorem as_rls (v x:Value):ReflectliteValue.set #[v,x]=(do
    let (some (dst,a,fl),some (src,b,_)):=(← ReflectliteValue.parts v,← ReflectliteValue.parts x)
      | unsupported (.noEntry "extern/(internal/reflectlite.Value).Set.zeroValue")
    if fl / ReflectliteValue.flagAddr % 2==0 then unsupported (.noEntry "extern/(internal/reflectlite.Value).Set.unaddressable")
    let val ← loadVar src b
    if ← Rtype.directlyAssignable dst src then storeVar dst a val
    else if ← Rtype.implements dst src then
      if (← Rtype.kind src)==20 then
        match val with
        | .nilIface=>unsupported (.noEntry "extern/reflectlite: a nil value of one interface type handed on as a value of another")
        | _=>storeVar dst a val
      else storeVar dst a (.iface src val)
    else panicString ("reflectlite.Set: value of type " ++ (← Rtype.spelt src) ++ " is not assignable to type " ++ (← Rtype.spelt dst))
    pure (.tuple #[])):=rfl
theorem r_8 (a:Addr)(w:World):(ReflectliteValue.parts<|.agg #[.pointer (some ⟨4,128,none⟩),.pointer<|some a,.int .u64 406]).run Tryz.prog w = .ok (some (128,a,406)) w:=by kernel_rfl
theorem r_9 (a:Addr)(w:World):(ReflectliteValue.parts<|.agg #[.pointer (some ⟨4,128,none⟩),.pointer<|some a,.int .u64 150]).run Tryz.prog w = .ok (some (128,a,150)) w:=by kernel_rfl
theorem r_a (w:World):(Rtype.directlyAssignable 128 128).run Tryz.prog w = .ok true w:=by kernel_rfl
theorem as_size25 (w:World):(sizeOf 128).run Tryz.prog w = .ok 1 w:=by kernel_rfl
theorem r_b (ta b e:Addr)(old:Value)(W:World)(hb:W.cell? b=some (.pointer<|some e))(ht:W.cell? ta=some old)(hf:W.frozen? ta=false) :
    (ReflectliteValue.set #[.agg #[.pointer (some ⟨4,128,none⟩),.pointer<|some ta,.int .u64 406],.agg #[.pointer (some ⟨4,128,none⟩),.pointer<|some b,.int .u64 150]]).run Tryz.prog W
      = .ok (.tuple #[]) (W.setCell ta<|.pointer<|some e):=by
  rw [as_rls]
  simp only [Sem.run_bind,r_8,r_9,Result.andThen]
  simp [ReflectliteValue.flagAddr,loadVar,isAgg,underlying,Tryz.underlying128,hb,Result.andThen,r_a,storeVar,Value.cells,storeCells,Addr.add]
  rw [run_store Tryz.prog W ta _ _ (by rfl)]
  simp [ht,hf]
set_option maxHeartbeats 4000000 in
theorem as_hit (e t:Addr)(old:Value)(w:World)(hg:w.cell? ⟨0,0,none⟩=some (.iface 173<|.agg #[.pointer (some ⟨4,125,none⟩)]))(G:w.cell? t=some old)(H:w.frozen? t=false) :
    Calls Tryz.prog 88 #[.iface 128 (.pointer<|some e),.iface 130<|.pointer<|some t] w λev w'=>ev = .returned (.bool true)/\w'=((((w.alloc<|.cells #[.pointer (some t)] 130).alloc (.cells #[.pointer (some ⟨4,130,none⟩),.pointer<|some ⟨w.heap.size,0,none⟩,.int .u64 150] 155)).alloc (.cells #[.pointer (some ⟨4,130,none⟩),.pointer<|some ⟨w.heap.size,0,none⟩,.int .u64 150] 155)).alloc (.cells #[.pointer (some e)] 128)).setCell t (.pointer<|some e):=by
  have h6:=@run_callFunc_extern Tryz.prog 109 _ (λargs=>ReflectliteValue.unpack (args.getD 0 (.tuple #[]))) Tryz.func109 (by kernel_rfl) (by kernel_rfl) (by kernel_rfl) (by kernel_rfl);have h7:=@run_callFunc_extern Tryz.prog 110 _ (ReflectliteValue.methodAny (ReflectliteValue.valueError "reflectlite.Value.Type" 0) (λt _ _ _=>ReflectliteType.toType t)) Tryz.func110 (by kernel_rfl) (by kernel_rfl) (by kernel_rfl) (by kernel_rfl)
  have h8:=@run_callFunc_extern Tryz.prog 111 _ (ReflectliteValue.method (ReflectliteValue.valueError "reflectlite.Value.IsNil" 0) ReflectliteValue.isNil) Tryz.func111 (by kernel_rfl) (by kernel_rfl) (by kernel_rfl) (by kernel_rfl)
  have I:=@run_callFunc_extern Tryz.prog 168 _ (ReflectliteType.abiMethod λt=>do pure (.int .u8 (← Rtype.kind t))) Tryz.func168 (by kernel_rfl) (by kernel_rfl) (by kernel_rfl) (by kernel_rfl);have J:=@run_callFunc_extern Tryz.prog 178 _ (ReflectliteType.method ReflectliteType.elem) Tryz.func178 (by kernel_rfl) (by kernel_rfl) (by kernel_rfl) (by kernel_rfl);have L:=@run_callFunc_extern Tryz.prog 179 _ (ReflectliteType.relation "Implements" ReflectliteType.implements_) Tryz.func179 (by kernel_rfl) (by kernel_rfl) (by kernel_rfl) (by kernel_rfl)
  have O:=@run_callFunc_extern Tryz.prog 131 _ ReflectliteType.typeOf Tryz.func131 (by kernel_rfl) (by kernel_rfl) (by kernel_rfl) (by kernel_rfl);have V:=@run_callFunc_extern Tryz.prog 176 _ (ReflectliteType.relation "AssignableTo" ReflectliteType.assignableTo) Tryz.func176 (by kernel_rfl) (by kernel_rfl) (by kernel_rfl) (by kernel_rfl)
  have W:=@run_callFunc_extern Tryz.prog 132 _ (ReflectliteValue.method (ReflectliteValue.valueError "reflectlite.Value.Elem" 0) ReflectliteValue.elem) Tryz.func132 (by kernel_rfl) (by kernel_rfl) (by kernel_rfl) (by kernel_rfl)
  have Y:=@run_callFunc_extern Tryz.prog 133 _ ReflectliteValue.set Tryz.func133 (by kernel_rfl) (by kernel_rfl) (by kernel_rfl) (by kernel_rfl);have tO:=r_2;have mA:=q_Z;have a0:=r_3;have a1:=r_4;have f6:=q_R;have f7:=q_S;have mK:=q_T;have mE:=q_X;have mI:=q_Y;have a2:=q_U;have a3:=q_V;have a4:=r_0;have a5:=r_1;have n8:=q_W ⟨w.heap.size,0,none⟩ t ((w.alloc<|.cells #[.pointer (some t)] 130).alloc (.cells #[.pointer (some ⟨4,130,none⟩),.pointer<|some ⟨w.heap.size,0,none⟩,.int .u64 150] 155)) (by simp);have hlt:0<w.heap.size:=World.block_lt_of_cell? w _ hg
  have a6:((w.alloc<|.cells #[.pointer (some t)] 130).alloc (.cells #[.pointer (some ⟨4,130,none⟩),.pointer<|some ⟨w.heap.size,0,none⟩,.int .u64 150] 155)).cell? ⟨0,0,none⟩=some (.iface 173<|.agg #[.pointer (some ⟨4,125,none⟩)]):=by
    rw [World.cell?_alloc_lt _ _ ⟨0,0,none⟩ (by simp <;> omega),World.cell?_alloc_lt _ _ ⟨0,0,none⟩ hlt];exact hg
  have htl:t.block<w.heap.size:=by
    rcases Nat.lt_or_ge t.block w.heap.size with h | h
    . exact h
    . simp [World.cell?,Array.getElem?_eq_none h] at G
  have el:=r_7 ⟨w.heap.size,0,none⟩ t (((w.alloc<|.cells #[.pointer (some t)] 130).alloc (.cells #[.pointer (some ⟨4,130,none⟩),.pointer<|some ⟨w.heap.size,0,none⟩,.int .u64 150] 155)).alloc (.cells #[.pointer (some ⟨4,130,none⟩),.pointer<|some ⟨w.heap.size,0,none⟩,.int .u64 150] 155)) (by rw [World.cell?_alloc_lt _ _ ⟨w.heap.size,0,none⟩ (by simp;omega)];simp)
  have st:=r_b t ⟨w.heap.size+1+1+1,0,none⟩ e old ((((w.alloc<|.cells #[.pointer (some t)] 130).alloc (.cells #[.pointer (some ⟨4,130,none⟩),.pointer<|some ⟨w.heap.size,0,none⟩,.int .u64 150] 155)).alloc (.cells #[.pointer (some ⟨4,130,none⟩),.pointer<|some ⟨w.heap.size,0,none⟩,.int .u64 150] 155)).alloc (.cells #[.pointer (some e)] 128))
    (by rw [World.cell?_alloc_at _ _ _ _ (by simp)];rfl)
    (by rw [World.cell?_alloc_lt _ _ t (by simp;omega),World.cell?_alloc_lt _ _ t (by simp;omega),World.cell?_alloc_lt _ _ t (by simp;omega),World.cell?_alloc_lt _ _ t htl];exact G)
    (by rw [World.frozen?_alloc_old _ _ t (by simp;omega),World.frozen?_alloc_old _ _ t (by simp;omega),World.frozen?_alloc_old _ _ t (by simp;omega),World.frozen?_alloc_old _ _ t<|Nat.ne_of_lt htl];exact H)
  go_enter Tryz.func88,Tryz.ntmps88
  go_wp2
  refine wp_loop_rounds 1 ?_
  rw [rounds_succ]
  go_wp2
  go_ret
  exact ⟨rfl,rfl⟩
theorem r_c {S:List Nat}{v t:Value}{w:World}{o:Option (Int×Int)}(h:b_0 128 w S v o)(ho:o.isSome=false):r_ Tryz.prog 88 [v,t] w (λr w'=>vB false=r/\Below w.heap.size w w'):=by
  cases o with
  | some _=>cases ho
  | none =>
  obtain ⟨rfl,_⟩:=h;exact ⟨(as_nil t w).mono λe w' ⟨he,hw⟩=>⟨_,he,rfl,hw ▸ Below.refl _ _⟩⟩
theorem r_d {S:List Nat}{v:Value}{w:World}{B:Zone}{g:Nat}{o:Option (Int×Int)}{p c:Int}(hG:Gl w B)(h:b_0 128 w S v o)(ho:o=some (p,c))(hb:Blk w g [.pointer none]) :
    r_ Tryz.prog 88 [v,.iface 130<|.pointer<|some ⟨g,0,none⟩] w (λr w'=>∃ge,vB true=r/\Chg (· = g) w w'/\Blk w' g [.pointer (some ⟨ge,0,none⟩)]/\Blk w ge [vI p,vI c]/\ge∈S/\inI p/\inI c):=by
  subst ho;obtain ⟨b,rfl,rfl,hbk,hp,hc⟩:=h;refine ⟨(as_hit ⟨b,0,none⟩ ⟨g,0,none⟩ (.pointer none) w (gl_err hG) (hb.at rfl)<|hb.free (i:=0) Nat.zero_lt_one).mono λe w' ⟨he,hw⟩=>⟨_,he,b,rfl,?_,?_,hbk,List.mem_singleton.2 rfl,hp,hc⟩⟩
  . subst hw;exact as_chg hb
  . subst hw;exact as_blk hb
end
end Go.Vw
