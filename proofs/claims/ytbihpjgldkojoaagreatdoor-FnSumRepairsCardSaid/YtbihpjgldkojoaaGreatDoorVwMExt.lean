/- The package-level variables, and the library's functions that are called. -/
import Derived.Test.YtbihpjgldkojoaaGreatDoorVmA
import Derived.WalkKit
import Derived.LaidEql
import Derived.Stop.Asserts
import Derived.RowKitTokens
import Derived.Test.YtbihpjgldkojoaaGreatDoorShelf
set_option linter.unusedVariables false
namespace Go.Vw
open Go.RowKit Dat Go.Proofs
/-- What the variables hold. -/
def GD (w:World):Prop:=Lib.TabIs Tryz.prog w "internal/strconv.uint64pow10" .u64 Lib.pow10Tab/\w.cell? ⟨0,0,none⟩=some (.iface 166 (.agg #[.pointer (some ⟨4,122,none⟩)]))
abbrev Gl:World->Zone->Prop:=GlW 4 GD
theorem gl_err {w:World}{B:Zone}(h:Gl w B):w.cell? ⟨0,0,none⟩=some (.iface 166<|.agg #[.pointer (some ⟨4,122,none⟩)]):=h.cell (λ_ h=>h.2) (by decide)
theorem gl_tab {w:World}{B:Zone}(h:Gl w B):Lib.TabIs Tryz.prog w "internal/strconv.uint64pow10" .u64 Lib.pow10Tab:=h.tab (λ_ h=>h.1) (by kernel_rfl:Tryz.prog.globalNamed "internal/strconv.uint64pow10" = some 1) (by decide)
def o_e (w0:World)(B:Zone)(r:Str)(v:Value)(w':World):Prop:=Below w0.heap.size w0 w'/\(λG=>(Str.v G)=v/\G.b.length<=LEN) r
theorem o_f {B:Zone}{x1:Int}{res:Str}{w0:World}(hm:j_j x1=some res)(H:B<=w0.heap.size)(hG:Gl w0 B)(G:inI x1):q_ Tryz.prog 124 [vI x1] w0 (o_e w0 B res):=by
  obtain rfl:=som hm;exact (n_Y<|Tryz.strconv_Itoa x1 (by unfold inI at G;omega) (by unfold inI at G;omega) w0<|gl_tab hG).mono λv w' h=>⟨h.2,h.1,Nat.le_trans (Lib.itoa_length_le x1 (by unfold inI at G;omega) (by unfold inI at G;omega))<|Nat.le_of_ble_eq_true rfl⟩
section
open Go.Extern.Stop Go.Stop Go.Extern
/-! ### errors.As at one target type (after the kit's worked example) -/
theorem as_nil (t:Value)(w:World):Calls Tryz.prog 82 #[.nilIface,t] w λe w'=>e = .returned (.bool false)/\w'=w:=by
  go_enter Tryz.func82,Tryz.ntmps82
  go_wp2
  go_ret
  exact ⟨rfl,rfl⟩
theorem o_g (t:Addr)(w:World):(ReflectliteValue.unpack<|.iface 127<|.pointer<|some t).run Tryz.prog w
    = .ok (.agg #[.pointer (some ⟨4,127,none⟩),.pointer<|some ⟨w.heap.size,0,none⟩,.int .u64 150]) (w.alloc<|.cells #[.pointer (some t)] 127):=by kernel_rfl
theorem o_h (a:Addr)(w:World):(ReflectliteValue.methodAny (ReflectliteValue.valueError "reflectlite.Value.Type" 0) (λt _ _ _=>ReflectliteType.toType t) #[.agg #[.pointer (some ⟨4,127,none⟩),.pointer (some a),.int .u64 150]]).run Tryz.prog w
    = .ok (.iface 166<|.agg #[.pointer (some ⟨4,127,none⟩)]) w:=by kernel_rfl
theorem o_i (h:Value)(w:World):(Go.method 329 166 (.agg #[h]) "Kind").run Tryz.prog w = .ok (168,h) w:=by kernel_rfl
theorem o_j (w:World):((ReflectliteType.abiMethod λt=>Functor.map (λa:Nat=>Value.int IntKind.u8 (a:Int))<|Rtype.kind t) #[.pointer (some ⟨4,127,none⟩)]).run Tryz.prog w = .ok (.int .u8 22) w:=by kernel_rfl
theorem o_k (w:World):((ReflectliteType.abiMethod λt=>Functor.map (λa:Nat=>Value.int IntKind.u8 (a:Int))<|Rtype.kind t) #[.pointer (some ⟨4,125,none⟩)]).run Tryz.prog w = .ok (.int .u8 22) w:=by kernel_rfl
theorem l_7 (z:Sem Value)(f:TypeId->Addr->Nat->Nat->Sem Value)(v:Value) :
    ReflectliteValue.method z f #[v]=(do match ← ReflectliteValue.parts v with | none=>z | some (t,a,fl)=>f t a fl<|fl % 32):=rfl
theorem l_8 (a:Addr)(w:World):(ReflectliteValue.parts<|.agg #[.pointer (some ⟨4,127,none⟩),.pointer<|some a,.int .u64 150]).run Tryz.prog w = .ok (some (127,a,150)) w:=by kernel_rfl
theorem o_l (a p:Addr)(W:World)(ha:W.cell? a=some (.pointer<|some p)) :
    (ReflectliteValue.method (ReflectliteValue.valueError "reflectlite.Value.IsNil" 0) ReflectliteValue.isNil #[.agg #[.pointer (some ⟨4,127,none⟩),.pointer (some a),.int .u64 150]]).run Tryz.prog W = .ok (.bool false) W:=by
  rw [l_7]
  simp only [Sem.run_bind,l_8,Result.andThen]
  simp [ReflectliteValue.isNil,loadVar,isAgg,underlying,Tryz.underlying127,ha,Result.andThen]
theorem o_m (h:Value)(w:World):(Go.method 329 166 (.agg #[h]) "Elem").run Tryz.prog w = .ok (179,.agg #[h]) w:=by kernel_rfl
theorem o_n (h:Value)(w:World):(Go.method 329 166 (.agg #[h]) "Implements").run Tryz.prog w = .ok (180,.agg #[h]) w:=by kernel_rfl
theorem o_o (h:Value)(w:World):(Go.method 329 166 (.agg #[h]) "AssignableTo").run Tryz.prog w = .ok (177,.agg #[h]) w:=by kernel_rfl
theorem o_p (w:World):(ReflectliteType.method ReflectliteType.elem #[.agg #[.pointer (some ⟨4,127,none⟩)]]).run Tryz.prog w = .ok (.iface 166<|.agg #[.pointer (some ⟨4,125,none⟩)]) w:=by kernel_rfl
theorem o_q (w:World):(ReflectliteType.relation "Implements" ReflectliteType.implements_ #[.agg #[.pointer (some ⟨4,125,none⟩)],.iface 166 (.agg #[.pointer (some ⟨4,122,none⟩)])]).run Tryz.prog w = .ok (.bool true) w:=by kernel_rfl
theorem o_r (v:Value)(w:World):(ReflectliteType.typeOf #[.iface 125 v]).run Tryz.prog w = .ok (.iface 166<|.agg #[.pointer (some ⟨4,125,none⟩)]) w:=by kernel_rfl
theorem o_s (w:World):(ReflectliteType.relation "AssignableTo" ReflectliteType.assignableTo #[.agg #[.pointer (some ⟨4,125,none⟩)],.iface 166 (.agg #[.pointer (some ⟨4,125,none⟩)])]).run Tryz.prog w = .ok (.bool true) w:=by kernel_rfl
theorem o_t (e:Addr)(w:World):(ReflectliteValue.unpack<|.iface 125<|.pointer<|some e).run Tryz.prog w
    = .ok (.agg #[.pointer (some ⟨4,125,none⟩),.pointer<|some ⟨w.heap.size,0,none⟩,.int .u64 150]) (w.alloc<|.cells #[.pointer (some e)] 125):=by kernel_rfl
theorem o_u (w:World):(Rtype.elem? 127).run Tryz.prog w = .ok (some 125) w:=by kernel_rfl
theorem o_v (p:Addr)(w:World):(ReflectliteValue.mk 125 p ReflectliteValue.flagAddr).run Tryz.prog w = .ok (.agg #[.pointer (some ⟨4,125,none⟩),.pointer<|some p,.int .u64 406]) w:=by kernel_rfl
theorem o_w (a p:Addr)(W:World)(ha:W.cell? a=some (.pointer<|some p)) :
    (ReflectliteValue.method (ReflectliteValue.valueError "reflectlite.Value.Elem" 0) ReflectliteValue.elem #[.agg #[.pointer (some ⟨4,127,none⟩),.pointer (some a),.int .u64 150]]).run Tryz.prog W
      = .ok (.agg #[.pointer (some ⟨4,125,none⟩),.pointer<|some p,.int .u64 406]) W:=by
  rw [l_7]
  simp only [Sem.run_bind,l_8,Result.andThen]
  simp [ReflectliteValue.elem,loadVar,isAgg,underlying,Tryz.underlying127,ha,Result.andThen,o_u,o_v]
theorem as_rls (v x:Value):ReflectliteValue.set #[v,x]=(do
    let (some (dst,a,fl),some (src,b,_)):=(← ReflectliteValue.parts v,← ReflectliteValue.parts x)
      | unsupported (.noEntry "extern/(internal/reflectlite.Value).Set.zeroValue")
    if fl / ReflectliteValue.flagAddr % 2==0 then unsupported (.noEntry "extern/(internal/reflectlite.Value).Set.unaddressable")
    let val ← loadVar src b
    if ← Rtype.directlyAssignable dst src then storeVar dst a val
    else if ← Rtype.implements dst src then
      if (← Rtype.kind src)==20 then
        match val with
        | .nilIface=>unsupported (.noEntry "extern/reflectlite: a nil value of one interface type handed on as a value of another")
        | _=>storeVar dst a val
      else storeVar dst a (.iface src val)
    else panicString ("reflectlite.Set: value of type " ++ (← Rtype.spelt src) ++ " is not assignable to type " ++ (← Rtype.spelt dst))
    pure (.tuple #[])):=rfl
theorem o_x (a:Addr)(w:World):(ReflectliteValue.parts<|.agg #[.pointer (some ⟨4,125,none⟩),.pointer<|some a,.int .u64 406]).run Tryz.prog w = .ok (some (125,a,406)) w:=by kernel_rfl
theorem o_y (a:Addr)(w:World):(ReflectliteValue.parts<|.agg #[.pointer (some ⟨4,125,none⟩),.pointer<|some a,.int .u64 150]).run Tryz.prog w = .ok (some (125,a,150)) w:=by kernel_rfl
theorem o_z (w:World):(Rtype.directlyAssignable 125 125).run Tryz.prog w = .ok true w:=by kernel_rfl
theorem as_size25 (w:World):(sizeOf 125).run Tryz.prog w = .ok 1 w:=by kernel_rfl
theorem o_A (ta b e:Addr)(old:Value)(W:World)(hb:W.cell? b=some (.pointer<|some e))(ht:W.cell? ta=some old)(hf:W.frozen? ta=false) :
    (ReflectliteValue.set #[.agg #[.pointer (some ⟨4,125,none⟩),.pointer<|some ta,.int .u64 406],.agg #[.pointer (some ⟨4,125,none⟩),.pointer<|some b,.int .u64 150]]).run Tryz.prog W
      = .ok (.tuple #[]) (W.setCell ta<|.pointer<|some e):=by
  rw [as_rls]
  simp only [Sem.run_bind,o_x,o_y,Result.andThen]
  simp [ReflectliteValue.flagAddr,loadVar,isAgg,underlying,Tryz.underlying125,hb,Result.andThen,o_z,storeVar,Value.cells,storeCells,Addr.add]
  rw [run_store Tryz.prog W ta _ _ (by rfl)]
  simp [ht,hf]
set_option maxHeartbeats 4000000 in
theorem as_hit (e t:Addr)(old:Value)(w:World)(hg:w.cell? ⟨0,0,none⟩=some (.iface 166<|.agg #[.pointer (some ⟨4,122,none⟩)]))(G:w.cell? t=some old)(H:w.frozen? t=false) :
    Calls Tryz.prog 82 #[.iface 125 (.pointer<|some e),.iface 127<|.pointer<|some t] w λev w'=>ev = .returned (.bool true)/\w'=((((w.alloc<|.cells #[.pointer (some t)] 127).alloc (.cells #[.pointer (some ⟨4,127,none⟩),.pointer<|some ⟨w.heap.size,0,none⟩,.int .u64 150] 153)).alloc (.cells #[.pointer (some ⟨4,127,none⟩),.pointer<|some ⟨w.heap.size,0,none⟩,.int .u64 150] 153)).alloc (.cells #[.pointer (some e)] 125)).setCell t (.pointer<|some e):=by
  have h6:=@run_callFunc_extern Tryz.prog 116 _ (λargs=>ReflectliteValue.unpack (args.getD 0 (.tuple #[]))) Tryz.func116 (by kernel_rfl) (by kernel_rfl) (by kernel_rfl) (by kernel_rfl);have h7:=@run_callFunc_extern Tryz.prog 117 _ (ReflectliteValue.methodAny (ReflectliteValue.valueError "reflectlite.Value.Type" 0) (λt _ _ _=>ReflectliteType.toType t)) Tryz.func117 (by kernel_rfl) (by kernel_rfl) (by kernel_rfl) (by kernel_rfl)
  have h8:=@run_callFunc_extern Tryz.prog 118 _ (ReflectliteValue.method (ReflectliteValue.valueError "reflectlite.Value.IsNil" 0) ReflectliteValue.isNil) Tryz.func118 (by kernel_rfl) (by kernel_rfl) (by kernel_rfl) (by kernel_rfl)
  have I:=@run_callFunc_extern Tryz.prog 168 _ (ReflectliteType.abiMethod λt=>do pure (.int .u8 (← Rtype.kind t))) Tryz.func168 (by kernel_rfl) (by kernel_rfl) (by kernel_rfl) (by kernel_rfl);have J:=@run_callFunc_extern Tryz.prog 179 _ (ReflectliteType.method ReflectliteType.elem) Tryz.func179 (by kernel_rfl) (by kernel_rfl) (by kernel_rfl) (by kernel_rfl);have L:=@run_callFunc_extern Tryz.prog 180 _ (ReflectliteType.relation "Implements" ReflectliteType.implements_) Tryz.func180 (by kernel_rfl) (by kernel_rfl) (by kernel_rfl) (by kernel_rfl)
  have O:=@run_callFunc_extern Tryz.prog 126 _ ReflectliteType.typeOf Tryz.func126 (by kernel_rfl) (by kernel_rfl) (by kernel_rfl) (by kernel_rfl);have V:=@run_callFunc_extern Tryz.prog 177 _ (ReflectliteType.relation "AssignableTo" ReflectliteType.assignableTo) Tryz.func177 (by kernel_rfl) (by kernel_rfl) (by kernel_rfl) (by kernel_rfl)
  have W:=@run_callFunc_extern Tryz.prog 127 _ (ReflectliteValue.method (ReflectliteValue.valueError "reflectlite.Value.Elem" 0) ReflectliteValue.elem) Tryz.func127 (by kernel_rfl) (by kernel_rfl) (by kernel_rfl) (by kernel_rfl)
  have Y:=@run_callFunc_extern Tryz.prog 128 _ ReflectliteValue.set Tryz.func128 (by kernel_rfl) (by kernel_rfl) (by kernel_rfl) (by kernel_rfl);have tO:=o_r;have mA:=o_o;have a0:=o_s;have a1:=o_t;have f6:=o_g;have f7:=o_h;have mK:=o_i;have mE:=o_m;have mI:=o_n;have a2:=o_j;have a3:=o_k;have a4:=o_p;have a5:=o_q;have n8:=o_l ⟨w.heap.size,0,none⟩ t ((w.alloc<|.cells #[.pointer (some t)] 127).alloc (.cells #[.pointer (some ⟨4,127,none⟩),.pointer<|some ⟨w.heap.size,0,none⟩,.int .u64 150] 153)) (by simp);have hlt:0<w.heap.size:=World.block_lt_of_cell? w _ hg
  have a6:((w.alloc<|.cells #[.pointer (some t)] 127).alloc (.cells #[.pointer (some ⟨4,127,none⟩),.pointer<|some ⟨w.heap.size,0,none⟩,.int .u64 150] 153)).cell? ⟨0,0,none⟩=some (.iface 166<|.agg #[.pointer (some ⟨4,122,none⟩)]):=by
    rw [World.cell?_alloc_lt _ _ ⟨0,0,none⟩ (by simp <;> omega),World.cell?_alloc_lt _ _ ⟨0,0,none⟩ hlt];exact hg
  have htl:t.block<w.heap.size:=by
    rcases Nat.lt_or_ge t.block w.heap.size with h | h
    . exact h
    . simp [World.cell?,Array.getElem?_eq_none h] at G
  have el:=o_w ⟨w.heap.size,0,none⟩ t (((w.alloc<|.cells #[.pointer (some t)] 127).alloc (.cells #[.pointer (some ⟨4,127,none⟩),.pointer<|some ⟨w.heap.size,0,none⟩,.int .u64 150] 153)).alloc (.cells #[.pointer (some ⟨4,127,none⟩),.pointer<|some ⟨w.heap.size,0,none⟩,.int .u64 150] 153)) (by rw [World.cell?_alloc_lt _ _ ⟨w.heap.size,0,none⟩ (by simp;omega)];simp)
  have st:=o_A t ⟨w.heap.size+1+1+1,0,none⟩ e old ((((w.alloc<|.cells #[.pointer (some t)] 127).alloc (.cells #[.pointer (some ⟨4,127,none⟩),.pointer<|some ⟨w.heap.size,0,none⟩,.int .u64 150] 153)).alloc (.cells #[.pointer (some ⟨4,127,none⟩),.pointer<|some ⟨w.heap.size,0,none⟩,.int .u64 150] 153)).alloc (.cells #[.pointer (some e)] 125))
    (by rw [World.cell?_alloc_at _ _ _ _ (by simp)];rfl)
    (by rw [World.cell?_alloc_lt _ _ t (by simp;omega),World.cell?_alloc_lt _ _ t (by simp;omega),World.cell?_alloc_lt _ _ t (by simp;omega),World.cell?_alloc_lt _ _ t htl];exact G)
    (by rw [World.frozen?_alloc_old _ _ t (by simp;omega),World.frozen?_alloc_old _ _ t (by simp;omega),World.frozen?_alloc_old _ _ t (by simp;omega),World.frozen?_alloc_old _ _ t<|Nat.ne_of_lt htl];exact H)
  go_enter Tryz.func82,Tryz.ntmps82
  go_wp2
  refine wp_loop_rounds 1 ?_
  rw [rounds_succ]
  go_wp2
  go_ret
  exact ⟨rfl,rfl⟩
theorem o_B {S:List Nat}{v t:Value}{w:World}{o:Option (Int×Int)}(h:a_U 125 w S v o)(ho:o.isSome=false):q_ Tryz.prog 82 [v,t] w (λr w'=>vB false=r/\Below w.heap.size w w'):=by
  cases o with
  | some _=>cases ho
  | none =>
  obtain ⟨rfl,_⟩:=h;exact ⟨(as_nil t w).mono λe w' ⟨he,hw⟩=>⟨_,he,rfl,hw ▸ Below.refl _ _⟩⟩
theorem o_C {S:List Nat}{v:Value}{w:World}{B:Zone}{g:Nat}{o:Option (Int×Int)}{p c:Int}(hG:Gl w B)(h:a_U 125 w S v o)(ho:o=some (p,c))(hb:Blk w g [.pointer none]) :
    q_ Tryz.prog 82 [v,.iface 127<|.pointer<|some ⟨g,0,none⟩] w (λr w'=>∃ge,vB true=r/\Chg (· = g) w w'/\Blk w' g [.pointer (some ⟨ge,0,none⟩)]/\Blk w ge [vI p,vI c]/\ge∈S/\inI p/\inI c):=by
  subst ho;obtain ⟨b,rfl,rfl,hbk,hp,hc⟩:=h;refine ⟨(as_hit ⟨b,0,none⟩ ⟨g,0,none⟩ (.pointer none) w (gl_err hG) (hb.at rfl)<|hb.free (i:=0) Nat.zero_lt_one).mono λe w' ⟨he,hw⟩=>⟨_,he,b,rfl,?_,?_,hbk,List.mem_singleton.2 rfl,hp,hc⟩⟩
  . subst hw;exact as_chg hb
  . subst hw;exact as_blk hb
end
end Go.Vw
