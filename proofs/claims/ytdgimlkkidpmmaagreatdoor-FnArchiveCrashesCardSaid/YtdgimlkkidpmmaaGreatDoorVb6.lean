/- The package-level variables, and the library's functions that are called. -/
import Derived.Test.YtdgimlkkidpmmaaGreatDoorV0
import Derived.WalkKit
import Derived.LaidEql
import Derived.Stop.Asserts
import Derived.RowKitTokens
import Derived.Test.YtdgimlkkidpmmaaGreatDoorProg
set_option linter.unusedVariables false
namespace Go.Vw
open Go.RowKit Dat Go.Proofs
/-- What the variables hold. -/
def GD (w:World):Prop:=w.cell? ⟨0,0,none⟩=some (.iface 188<|.agg #[.pointer (some ⟨1,143,none⟩)])
abbrev Gl:World->Zone->Prop:=GlW 1 GD
theorem gl_err {w:World}{B:Zone}(h:Gl w B):w.cell? ⟨0,0,none⟩=some (.iface 188<|.agg #[.pointer (some ⟨1,143,none⟩)]):=h.cell (λ_ h=>h) (by decide)
section
open Go.Extern.Stop Go.Stop Go.Extern
/-! ### errors.As at one target type (after the kit's worked example) -/
theorem as_nil (t:Value)(w:World):Calls Tryz.prog 112 #[.nilIface,t] w λe w'=>e = .returned (.bool false)/\w'=w:=by
  go_enter Tryz.func112,Tryz.ntmps112
  go_wp2
  go_ret
  exact ⟨rfl,rfl⟩
theorem r_7 (t:Addr)(w:World):(ReflectliteValue.unpack<|.iface 148<|.pointer<|some t).run Tryz.prog w
    = .ok (.agg #[.pointer (some ⟨1,148,none⟩),.pointer<|some ⟨w.heap.size,0,none⟩,.int .u64 150]) (w.alloc<|.cells #[.pointer (some t)] 148):=by kernel_rfl
theorem r_8 (a:Addr)(w:World):(ReflectliteValue.methodAny (ReflectliteValue.valueError "reflectlite.Value.Type" 0) (λt _ _ _=>ReflectliteType.toType t) #[.agg #[.pointer (some ⟨1,148,none⟩),.pointer (some a),.int .u64 150]]).run Tryz.prog w
    = .ok (.iface 188<|.agg #[.pointer (some ⟨1,148,none⟩)]) w:=by kernel_rfl
theorem r_9 (h:Value)(w:World):(Go.method 338 188 (.agg #[h]) "Kind").run Tryz.prog w = .ok (189,h) w:=by kernel_rfl
theorem r_a (w:World):((ReflectliteType.abiMethod λt=>Functor.map (λa:Nat=>Value.int IntKind.u8 (a:Int))<|Rtype.kind t) #[.pointer (some ⟨1,148,none⟩)]).run Tryz.prog w = .ok (.int .u8 22) w:=by kernel_rfl
theorem r_b (w:World):((ReflectliteType.abiMethod λt=>Functor.map (λa:Nat=>Value.int IntKind.u8 (a:Int))<|Rtype.kind t) #[.pointer (some ⟨1,146,none⟩)]).run Tryz.prog w = .ok (.int .u8 22) w:=by kernel_rfl
theorem n_R (z:Sem Value)(f:TypeId->Addr->Nat->Nat->Sem Value)(v:Value) :
    ReflectliteValue.method z f #[v]=(do match ← ReflectliteValue.parts v with | none=>z | some (t,a,fl)=>f t a fl<|fl % 32):=rfl
theorem n_S (a:Addr)(w:World):(ReflectliteValue.parts<|.agg #[.pointer (some ⟨1,148,none⟩),.pointer<|some a,.int .u64 150]).run Tryz.prog w = .ok (some (148,a,150)) w:=by kernel_rfl
theorem r_c (a p:Addr)(W:World)(ha:W.cell? a=some (.pointer<|some p)) :
    (ReflectliteValue.method (ReflectliteValue.valueError "reflectlite.Value.IsNil" 0) ReflectliteValue.isNil #[.agg #[.pointer (some ⟨1,148,none⟩),.pointer (some a),.int .u64 150]]).run Tryz.prog W = .ok (.bool false) W:=by
  rw [n_R]
  simp only [Sem.run_bind,n_S,Result.andThen]
  simp [ReflectliteValue.isNil,loadVar,isAgg,underlying,Tryz.underlying148,ha,Result.andThen]
theorem r_d (h:Value)(w:World):(Go.method 338 188 (.agg #[h]) "Elem").run Tryz.prog w = .ok (199,.agg #[h]) w:=by kernel_rfl
theorem r_e (h:Value)(w:World):(Go.method 338 188 (.agg #[h]) "Implements").run Tryz.prog w = .ok (200,.agg #[h]) w:=by kernel_rfl
theorem r_f (h:Value)(w:World):(Go.method 338 188 (.agg #[h]) "AssignableTo").run Tryz.prog w = .ok (197,.agg #[h]) w:=by kernel_rfl
theorem r_g (w:World):(ReflectliteType.method ReflectliteType.elem #[.agg #[.pointer (some ⟨1,148,none⟩)]]).run Tryz.prog w = .ok (.iface 188<|.agg #[.pointer (some ⟨1,146,none⟩)]) w:=by kernel_rfl
theorem r_h (w:World):(ReflectliteType.relation "Implements" ReflectliteType.implements_ #[.agg #[.pointer (some ⟨1,146,none⟩)],.iface 188 (.agg #[.pointer (some ⟨1,143,none⟩)])]).run Tryz.prog w = .ok (.bool true) w:=by kernel_rfl
theorem r_i (v:Value)(w:World):(ReflectliteType.typeOf #[.iface 146 v]).run Tryz.prog w = .ok (.iface 188<|.agg #[.pointer (some ⟨1,146,none⟩)]) w:=by kernel_rfl
theorem r_j (w:World):(ReflectliteType.relation "AssignableTo" ReflectliteType.assignableTo #[.agg #[.pointer (some ⟨1,146,none⟩)],.iface 188 (.agg #[.pointer (some ⟨1,146,none⟩)])]).run Tryz.prog w = .ok (.bool true) w:=by kernel_rfl
theorem r_k (e:Addr)(w:World):(ReflectliteValue.unpack<|.iface 146<|.pointer<|some e).run Tryz.prog w
    = .ok (.agg #[.pointer (some ⟨1,146,none⟩),.pointer<|some ⟨w.heap.size,0,none⟩,.int .u64 150]) (w.alloc<|.cells #[.pointer (some e)] 146):=by kernel_rfl
theorem r_l (w:World):(Rtype.elem? 148).run Tryz.prog w = .ok (some 146) w:=by kernel_rfl
theorem r_m (p:Addr)(w:World):(ReflectliteValue.mk 146 p ReflectliteValue.flagAddr).run Tryz.prog w = .ok (.agg #[.pointer (some ⟨1,146,none⟩),.pointer<|some p,.int .u64 406]) w:=by kernel_rfl
theorem r_n (a p:Addr)(W:World)(ha:W.cell? a=some (.pointer<|some p)) :
    (ReflectliteValue.method (ReflectliteValue.valueError "reflectlite.Value.Elem" 0) ReflectliteValue.elem #[.agg #[.pointer (some ⟨1,148,none⟩),.pointer (some a),.int .u64 150]]).run Tryz.prog W
      = .ok (.agg #[.pointer (some ⟨1,146,none⟩),.pointer<|some p,.int .u64 406]) W:=by
  rw [n_R]
  simp only [Sem.run_bind,n_S,Result.andThen]
  simp [ReflectliteValue.elem,loadVar,isAgg,underlying,Tryz.underlying148,ha,Result.andThen,r_l,r_m]
theorem as_rls (v x:Value):ReflectliteValue.set #[v,x]=(do
    let (some (dst,a,fl),some (src,b,_)):=(← ReflectliteValue.parts v,← ReflectliteValue.parts x)
      | unsupported (.noEntry "extern/(internal/reflectlite.Value).Set.zeroValue")
    if fl / ReflectliteValue.flagAddr % 2==0 then unsupported (.noEntry "extern/(internal/reflectlite.Value).Set.unaddressable")
    let val ← loadVar src b
    if ← Rtype.directlyAssignable dst src then storeVar dst a val
    else if ← Rtype.implements dst src then
      if (← Rtype.kind src)==20 then
        match val with
        | .nilIface=>unsupported (.noEntry "extern/reflectlite: a nil value of one interface type handed on as a value of another")
        | _=>storeVar dst a val
      else storeVar dst a (.iface src val)
    else panicString ("reflectlite.Set: value of type " ++ (← Rtype.spelt src) ++ " is not assignable to type " ++ (← Rtype.spelt dst))
    pure (.tuple #[])):=rfl
theorem r_o (a:Addr)(w:World):(ReflectliteValue.parts<|.agg #[.pointer (some ⟨1,146,none⟩),.pointer<|some a,.int .u64 406]).run Tryz.prog w = .ok (some (146,a,406)) w:=by kernel_rfl
theorem r_p (a:Addr)(w:World):(ReflectliteValue.parts<|.agg #[.pointer (some ⟨1,146,none⟩),.pointer<|some a,.int .u64 150]).run Tryz.prog w = .ok (some (146,a,150)) w:=by kernel_rfl
theorem r_q (w:World):(Rtype.directlyAssignable 146 146).run Tryz.prog w = .ok true w:=by kernel_rfl
theorem as_size25 (w:World):(sizeOf 146).run Tryz.prog w = .ok 1 w:=by kernel_rfl
theorem r_r (ta b e:Addr)(old:Value)(W:World)(hb:W.cell? b=some (.pointer<|some e))(ht:W.cell? ta=some old)(hf:W.frozen? ta=false) :
    (ReflectliteValue.set #[.agg #[.pointer (some ⟨1,146,none⟩),.pointer<|some ta,.int .u64 406],.agg #[.pointer (some ⟨1,146,none⟩),.pointer<|some b,.int .u64 150]]).run Tryz.prog W
      = .ok (.tuple #[]) (W.setCell ta<|.pointer<|some e):=by
  rw [as_rls]
  simp only [Sem.run_bind,r_o,r_p,Result.andThen]
  simp [ReflectliteValue.flagAddr,loadVar,isAgg,underlying,Tryz.underlying146,hb,Result.andThen,r_q,storeVar,Value.cells,storeCells,Addr.add]
  rw [run_store Tryz.prog W ta _ _ (by rfl)]
  simp [ht,hf]
set_option maxHeartbeats 4000000 in
theorem as_hit (e t:Addr)(old:Value)(w:World)(hg:w.cell? ⟨0,0,none⟩=some (.iface 188<|.agg #[.pointer (some ⟨1,143,none⟩)]))(G:w.cell? t=some old)(H:w.frozen? t=false) :
    Calls Tryz.prog 112 #[.iface 146 (.pointer<|some e),.iface 148<|.pointer<|some t] w λev w'=>ev = .returned (.bool true)/\w'=((((w.alloc<|.cells #[.pointer (some t)] 148).alloc (.cells #[.pointer (some ⟨1,148,none⟩),.pointer<|some ⟨w.heap.size,0,none⟩,.int .u64 150] 172)).alloc (.cells #[.pointer (some ⟨1,148,none⟩),.pointer<|some ⟨w.heap.size,0,none⟩,.int .u64 150] 172)).alloc (.cells #[.pointer (some e)] 146)).setCell t (.pointer<|some e):=by
  have h6:=@run_callFunc_extern Tryz.prog 143 _ (λargs=>ReflectliteValue.unpack (args.getD 0 (.tuple #[]))) Tryz.func143 (by kernel_rfl) (by kernel_rfl) (by kernel_rfl) (by kernel_rfl);have h7:=@run_callFunc_extern Tryz.prog 144 _ (ReflectliteValue.methodAny (ReflectliteValue.valueError "reflectlite.Value.Type" 0) (λt _ _ _=>ReflectliteType.toType t)) Tryz.func144 (by kernel_rfl) (by kernel_rfl) (by kernel_rfl) (by kernel_rfl)
  have h8:=@run_callFunc_extern Tryz.prog 145 _ (ReflectliteValue.method (ReflectliteValue.valueError "reflectlite.Value.IsNil" 0) ReflectliteValue.isNil) Tryz.func145 (by kernel_rfl) (by kernel_rfl) (by kernel_rfl) (by kernel_rfl)
  have I:=@run_callFunc_extern Tryz.prog 189 _ (ReflectliteType.abiMethod λt=>do pure (.int .u8 (← Rtype.kind t))) Tryz.func189 (by kernel_rfl) (by kernel_rfl) (by kernel_rfl) (by kernel_rfl);have J:=@run_callFunc_extern Tryz.prog 199 _ (ReflectliteType.method ReflectliteType.elem) Tryz.func199 (by kernel_rfl) (by kernel_rfl) (by kernel_rfl) (by kernel_rfl);have L:=@run_callFunc_extern Tryz.prog 200 _ (ReflectliteType.relation "Implements" ReflectliteType.implements_) Tryz.func200 (by kernel_rfl) (by kernel_rfl) (by kernel_rfl) (by kernel_rfl)
  have O:=@run_callFunc_extern Tryz.prog 160 _ ReflectliteType.typeOf Tryz.func160 (by kernel_rfl) (by kernel_rfl) (by kernel_rfl) (by kernel_rfl);have V:=@run_callFunc_extern Tryz.prog 197 _ (ReflectliteType.relation "AssignableTo" ReflectliteType.assignableTo) Tryz.func197 (by kernel_rfl) (by kernel_rfl) (by kernel_rfl) (by kernel_rfl)
  have W:=@run_callFunc_extern Tryz.prog 161 _ (ReflectliteValue.method (ReflectliteValue.valueError "reflectlite.Value.Elem" 0) ReflectliteValue.elem) Tryz.func161 (by kernel_rfl) (by kernel_rfl) (by kernel_rfl) (by kernel_rfl)
  have Y:=@run_callFunc_extern Tryz.prog 162 _ ReflectliteValue.set Tryz.func162 (by kernel_rfl) (by kernel_rfl) (by kernel_rfl) (by kernel_rfl);have tO:=r_i;have mA:=r_f;have a0:=r_j;have a1:=r_k;have f6:=r_7;have f7:=r_8;have mK:=r_9;have mE:=r_d;have mI:=r_e;have a2:=r_a;have a3:=r_b;have a4:=r_g;have a5:=r_h;have n8:=r_c ⟨w.heap.size,0,none⟩ t ((w.alloc<|.cells #[.pointer (some t)] 148).alloc (.cells #[.pointer (some ⟨1,148,none⟩),.pointer<|some ⟨w.heap.size,0,none⟩,.int .u64 150] 172)) (by simp);have hlt:0<w.heap.size:=World.block_lt_of_cell? w _ hg
  have a6:((w.alloc<|.cells #[.pointer (some t)] 148).alloc (.cells #[.pointer (some ⟨1,148,none⟩),.pointer<|some ⟨w.heap.size,0,none⟩,.int .u64 150] 172)).cell? ⟨0,0,none⟩=some (.iface 188<|.agg #[.pointer (some ⟨1,143,none⟩)]):=by
    rw [World.cell?_alloc_lt _ _ ⟨0,0,none⟩ (by simp <;> omega),World.cell?_alloc_lt _ _ ⟨0,0,none⟩ hlt];exact hg
  have htl:t.block<w.heap.size:=by
    rcases Nat.lt_or_ge t.block w.heap.size with h | h
    . exact h
    . simp [World.cell?,Array.getElem?_eq_none h] at G
  have el:=r_n ⟨w.heap.size,0,none⟩ t (((w.alloc<|.cells #[.pointer (some t)] 148).alloc (.cells #[.pointer (some ⟨1,148,none⟩),.pointer<|some ⟨w.heap.size,0,none⟩,.int .u64 150] 172)).alloc (.cells #[.pointer (some ⟨1,148,none⟩),.pointer<|some ⟨w.heap.size,0,none⟩,.int .u64 150] 172)) (by rw [World.cell?_alloc_lt _ _ ⟨w.heap.size,0,none⟩ (by simp;omega)];simp)
  have st:=r_r t ⟨w.heap.size+1+1+1,0,none⟩ e old ((((w.alloc<|.cells #[.pointer (some t)] 148).alloc (.cells #[.pointer (some ⟨1,148,none⟩),.pointer<|some ⟨w.heap.size,0,none⟩,.int .u64 150] 172)).alloc (.cells #[.pointer (some ⟨1,148,none⟩),.pointer<|some ⟨w.heap.size,0,none⟩,.int .u64 150] 172)).alloc (.cells #[.pointer (some e)] 146))
    (by rw [World.cell?_alloc_at _ _ _ _ (by simp)];rfl)
    (by rw [World.cell?_alloc_lt _ _ t (by simp;omega),World.cell?_alloc_lt _ _ t (by simp;omega),World.cell?_alloc_lt _ _ t (by simp;omega),World.cell?_alloc_lt _ _ t htl];exact G)
    (by rw [World.frozen?_alloc_old _ _ t (by simp;omega),World.frozen?_alloc_old _ _ t (by simp;omega),World.frozen?_alloc_old _ _ t (by simp;omega),World.frozen?_alloc_old _ _ t<|Nat.ne_of_lt htl];exact H)
  go_enter Tryz.func112,Tryz.ntmps112
  go_wp2
  refine wp_loop_rounds 1 ?_
  rw [rounds_succ]
  go_wp2
  go_ret
  exact ⟨rfl,rfl⟩
theorem r_s {S:List Nat}{v t:Value}{w:World}{o:Option (Int×Int)}(h:a_F 146 w S v o)(ho:o.isSome=false):g_ Tryz.prog 112 [v,t] w (λr w'=>vB false=r/\Below w.heap.size w w'):=by
  cases o with
  | some _=>cases ho
  | none =>
  obtain ⟨rfl,_⟩:=h;exact ⟨(as_nil t w).mono λe w' ⟨he,hw⟩=>⟨_,he,rfl,hw ▸ Below.refl _ _⟩⟩
theorem r_t {S:List Nat}{v:Value}{w:World}{B:Zone}{g:Nat}{o:Option (Int×Int)}{p c:Int}(hG:Gl w B)(h:a_F 146 w S v o)(ho:o=some (p,c))(hb:Blk w g [.pointer none]) :
    g_ Tryz.prog 112 [v,.iface 148<|.pointer<|some ⟨g,0,none⟩] w (λr w'=>∃ge,vB true=r/\Chg (· = g) w w'/\Blk w' g [.pointer (some ⟨ge,0,none⟩)]/\Blk w ge [vI p,vI c]/\ge∈S/\inI p/\inI c):=by
  subst ho;obtain ⟨b,rfl,rfl,hbk,hp,hc⟩:=h;refine ⟨(as_hit ⟨b,0,none⟩ ⟨g,0,none⟩ (.pointer none) w (gl_err hG) (hb.at rfl)<|hb.free (i:=0) Nat.zero_lt_one).mono λe w' ⟨he,hw⟩=>⟨_,he,b,rfl,?_,?_,hbk,List.mem_singleton.2 rfl,hp,hc⟩⟩
  . subst hw;exact as_chg hb
  . subst hw;exact as_blk hb
end
end Go.Vw
