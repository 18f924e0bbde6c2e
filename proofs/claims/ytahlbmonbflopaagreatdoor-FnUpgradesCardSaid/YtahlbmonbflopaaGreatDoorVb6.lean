/- The package-level variables, and the library's functions that are called. -/
import Derived.Test.YtahlbmonbflopaaGreatDoorV0
import Derived.WalkKit
import Derived.LaidEql
import Derived.Stop.Asserts
import Derived.RowKitTokens
import Derived.Test.YtahlbmonbflopaaGreatDoorProg
set_option linter.unusedVariables false
namespace Go.Vw
open Go.RowKit Dat Go.Proofs
/-- What the variables hold. -/
def GD (w:World):Prop:=w.cell? ⟨0,0,none⟩=some (.iface 150<|.agg #[.pointer (some ⟨1,81,none⟩)])
abbrev Gl:World->Zone->Prop:=GlW 1 GD
theorem gl_err {w:World}{B:Zone}(h:Gl w B):w.cell? ⟨0,0,none⟩=some (.iface 150<|.agg #[.pointer (some ⟨1,81,none⟩)]):=h.cell (λ_ h=>h) (by decide)
section
open Go.Extern.Stop Go.Stop Go.Extern
/-! ### errors.As at one target type (after the kit's worked example) -/
theorem as_nil (t:Value)(w:World):Calls Tryz.prog 57 #[.nilIface,t] w λe w'=>e = .returned (.bool false)/\w'=w:=by
  go_enter Tryz.func57,Tryz.ntmps57
  go_wp2
  go_ret
  exact ⟨rfl,rfl⟩
theorem r_F (t:Addr)(w:World):(ReflectliteValue.unpack<|.iface 86<|.pointer<|some t).run Tryz.prog w
    = .ok (.agg #[.pointer (some ⟨1,86,none⟩),.pointer<|some ⟨w.heap.size,0,none⟩,.int .u64 150]) (w.alloc<|.cells #[.pointer (some t)] 86):=by kernel_rfl
theorem r_G (a:Addr)(w:World):(ReflectliteValue.methodAny (ReflectliteValue.valueError "reflectlite.Value.Type" 0) (λt _ _ _=>ReflectliteType.toType t) #[.agg #[.pointer (some ⟨1,86,none⟩),.pointer (some a),.int .u64 150]]).run Tryz.prog w
    = .ok (.iface 150<|.agg #[.pointer (some ⟨1,86,none⟩)]) w:=by kernel_rfl
theorem r_H (h:Value)(w:World):(Go.method 314 150 (.agg #[h]) "Kind").run Tryz.prog w = .ok (171,h) w:=by kernel_rfl
theorem r_I (w:World):((ReflectliteType.abiMethod λt=>Functor.map (λa:Nat=>Value.int IntKind.u8 (a:Int))<|Rtype.kind t) #[.pointer (some ⟨1,86,none⟩)]).run Tryz.prog w = .ok (.int .u8 22) w:=by kernel_rfl
theorem r_J (w:World):((ReflectliteType.abiMethod λt=>Functor.map (λa:Nat=>Value.int IntKind.u8 (a:Int))<|Rtype.kind t) #[.pointer (some ⟨1,84,none⟩)]).run Tryz.prog w = .ok (.int .u8 22) w:=by kernel_rfl
theorem n_Q (z:Sem Value)(f:TypeId->Addr->Nat->Nat->Sem Value)(v:Value) :
    ReflectliteValue.method z f #[v]=(do match ← ReflectliteValue.parts v with | none=>z | some (t,a,fl)=>f t a fl<|fl % 32):=rfl
theorem n_R (a:Addr)(w:World):(ReflectliteValue.parts<|.agg #[.pointer (some ⟨1,86,none⟩),.pointer<|some a,.int .u64 150]).run Tryz.prog w = .ok (some (86,a,150)) w:=by kernel_rfl
theorem r_K (a p:Addr)(W:World)(ha:W.cell? a=some (.pointer<|some p)) :
    (ReflectliteValue.method (ReflectliteValue.valueError "reflectlite.Value.IsNil" 0) ReflectliteValue.isNil #[.agg #[.pointer (some ⟨1,86,none⟩),.pointer (some a),.int .u64 150]]).run Tryz.prog W = .ok (.bool false) W:=by
  rw [n_Q]
  simp only [Sem.run_bind,n_R,Result.andThen]
  simp [ReflectliteValue.isNil,loadVar,isAgg,underlying,Tryz.underlying86,ha,Result.andThen]
theorem r_L (h:Value)(w:World):(Go.method 314 150 (.agg #[h]) "Elem").run Tryz.prog w = .ok (181,.agg #[h]) w:=by kernel_rfl
theorem r_M (h:Value)(w:World):(Go.method 314 150 (.agg #[h]) "Implements").run Tryz.prog w = .ok (182,.agg #[h]) w:=by kernel_rfl
theorem r_N (h:Value)(w:World):(Go.method 314 150 (.agg #[h]) "AssignableTo").run Tryz.prog w = .ok (179,.agg #[h]) w:=by kernel_rfl
theorem r_O (w:World):(ReflectliteType.method ReflectliteType.elem #[.agg #[.pointer (some ⟨1,86,none⟩)]]).run Tryz.prog w = .ok (.iface 150<|.agg #[.pointer (some ⟨1,84,none⟩)]) w:=by kernel_rfl
theorem r_P (w:World):(ReflectliteType.relation "Implements" ReflectliteType.implements_ #[.agg #[.pointer (some ⟨1,84,none⟩)],.iface 150 (.agg #[.pointer (some ⟨1,81,none⟩)])]).run Tryz.prog w = .ok (.bool true) w:=by kernel_rfl
theorem r_Q (v:Value)(w:World):(ReflectliteType.typeOf #[.iface 84 v]).run Tryz.prog w = .ok (.iface 150<|.agg #[.pointer (some ⟨1,84,none⟩)]) w:=by kernel_rfl
theorem r_R (w:World):(ReflectliteType.relation "AssignableTo" ReflectliteType.assignableTo #[.agg #[.pointer (some ⟨1,84,none⟩)],.iface 150 (.agg #[.pointer (some ⟨1,84,none⟩)])]).run Tryz.prog w = .ok (.bool true) w:=by kernel_rfl
theorem r_S (e:Addr)(w:World):(ReflectliteValue.unpack<|.iface 84<|.pointer<|some e).run Tryz.prog w
    = .ok (.agg #[.pointer (some ⟨1,84,none⟩),.pointer<|some ⟨w.heap.size,0,none⟩,.int .u64 150]) (w.alloc<|.cells #[.pointer (some e)] 84):=by kernel_rfl
theorem r_T (w:World):(Rtype.elem? 86).run Tryz.prog w = .ok (some 84) w:=by kernel_rfl
theorem r_U (p:Addr)(w:World):(ReflectliteValue.mk 84 p ReflectliteValue.flagAddr).run Tryz.prog w = .ok (.agg #[.pointer (some ⟨1,84,none⟩),.pointer<|some p,.int .u64 406]) w:=by kernel_rfl
theorem r_V (a p:Addr)(W:World)(ha:W.cell? a=some (.pointer<|some p)) :
    (ReflectliteValue.method (ReflectliteValue.valueError "reflectlite.Value.Elem" 0) ReflectliteValue.elem #[.agg #[.pointer (some ⟨1,86,none⟩),.pointer (some a),.int .u64 150]]).run Tryz.prog W
      = .ok (.agg #[.pointer (some ⟨1,84,none⟩),.pointer<|some p,.int .u64 406]) W:=by
  rw [n_Q]
  simp only [Sem.run_bind,n_R,Result.andThen]
  simp [ReflectliteValue.elem,loadVar,isAgg,underlying,Tryz.underlying86,ha,Result.andThen,r_T,r_U]
theorem as_rls (v x:Value):ReflectliteValue.set #[v,x]=(do
    let (some (dst,a,fl),some (src,b,_)):=(← ReflectliteValue.parts v,← ReflectliteValue.parts x)
      | unsupported (.noEntry "extern/(internal/reflectlite.Value).Set.zeroValue")
    if fl / ReflectliteValue.flagAddr % 2==0 then unsupported (.noEntry "extern/(internal/reflectlite.Value).Set.unaddressable")
    let val ← loadVar src b
    if ← Rtype.directlyAssignable dst src then storeVar dst a val
    else if ← Rtype.implements dst src then
      if (← Rtype.kind src)==20 then
        match val with
        | .nilIface=>unsupported (.noEntry "extern/reflectlite: a nil value of one interface type handed on as a value of another")
        | _=>storeVar dst a val
      else storeVar dst a (.iface src val)
    else panicString ("reflectlite.Set: value of type " ++ (← Rtype.spelt src) ++ " is not assignable to type " ++ (← Rtype.spelt dst))
    pure (.tuple #[])):=rfl
theorem r_W (a:Addr)(w:World):(ReflectliteValue.parts<|.agg #[.pointer (some ⟨1,84,none⟩),.pointer<|some a,.int .u64 406]).run Tryz.prog w = .ok (some (84,a,406)) w:=by kernel_rfl
theorem r_X (a:Addr)(w:World):(ReflectliteValue.parts<|.agg #[.pointer (some ⟨1,84,none⟩),.pointer<|some a,.int .u64 150]).run Tryz.prog w = .ok (some (84,a,150)) w:=by kernel_rfl
theorem r_Y (w:World):(Rtype.directlyAssignable 84 84).run Tryz.prog w = .ok true w:=by kernel_rfl
theorem as_size25 (w:World):(sizeOf 84).run Tryz.prog w = .ok 1 w:=by kernel_rfl
theorem r_Z (ta b e:Addr)(old:Value)(W:World)(hb:W.cell? b=some (.pointer<|some e))(ht:W.cell? ta=some old)(hf:W.frozen? ta=false) :
    (ReflectliteValue.set #[.agg #[.pointer (some ⟨1,84,none⟩),.pointer<|some ta,.int .u64 406],.agg #[.pointer (some ⟨1,84,none⟩),.pointer<|some b,.int .u64 150]]).run Tryz.prog W
      = .ok (.tuple #[]) (W.setCell ta<|.pointer<|some e):=by
  rw [as_rls]
  simp only [Sem.run_bind,r_W,r_X,Result.andThen]
  simp [ReflectliteValue.flagAddr,loadVar,isAgg,underlying,Tryz.underlying84,hb,Result.andThen,r_Y,storeVar,Value.cells,storeCells,Addr.add]
  rw [run_store Tryz.prog W ta _ _ (by rfl)]
  simp [ht,hf]
set_option maxHeartbeats 4000000 in
theorem as_hit (e t:Addr)(old:Value)(w:World)(hg:w.cell? ⟨0,0,none⟩=some (.iface 150<|.agg #[.pointer (some ⟨1,81,none⟩)]))(G:w.cell? t=some old)(H:w.frozen? t=false) :
    Calls Tryz.prog 57 #[.iface 84 (.pointer<|some e),.iface 86<|.pointer<|some t] w λev w'=>ev = .returned (.bool true)/\w'=((((w.alloc<|.cells #[.pointer (some t)] 86).alloc (.cells #[.pointer (some ⟨1,86,none⟩),.pointer<|some ⟨w.heap.size,0,none⟩,.int .u64 150] 124)).alloc (.cells #[.pointer (some ⟨1,86,none⟩),.pointer<|some ⟨w.heap.size,0,none⟩,.int .u64 150] 124)).alloc (.cells #[.pointer (some e)] 84)).setCell t (.pointer<|some e):=by
  have h6:=@run_callFunc_extern Tryz.prog 95 _ (λargs=>ReflectliteValue.unpack (args.getD 0 (.tuple #[]))) Tryz.func95 (by kernel_rfl) (by kernel_rfl) (by kernel_rfl) (by kernel_rfl);have h7:=@run_callFunc_extern Tryz.prog 96 _ (ReflectliteValue.methodAny (ReflectliteValue.valueError "reflectlite.Value.Type" 0) (λt _ _ _=>ReflectliteType.toType t)) Tryz.func96 (by kernel_rfl) (by kernel_rfl) (by kernel_rfl) (by kernel_rfl)
  have h8:=@run_callFunc_extern Tryz.prog 97 _ (ReflectliteValue.method (ReflectliteValue.valueError "reflectlite.Value.IsNil" 0) ReflectliteValue.isNil) Tryz.func97 (by kernel_rfl) (by kernel_rfl) (by kernel_rfl) (by kernel_rfl)
  have I:=@run_callFunc_extern Tryz.prog 171 _ (ReflectliteType.abiMethod λt=>do pure (.int .u8 (← Rtype.kind t))) Tryz.func171 (by kernel_rfl) (by kernel_rfl) (by kernel_rfl) (by kernel_rfl);have J:=@run_callFunc_extern Tryz.prog 181 _ (ReflectliteType.method ReflectliteType.elem) Tryz.func181 (by kernel_rfl) (by kernel_rfl) (by kernel_rfl) (by kernel_rfl);have L:=@run_callFunc_extern Tryz.prog 182 _ (ReflectliteType.relation "Implements" ReflectliteType.implements_) Tryz.func182 (by kernel_rfl) (by kernel_rfl) (by kernel_rfl) (by kernel_rfl)
  have O:=@run_callFunc_extern Tryz.prog 118 _ ReflectliteType.typeOf Tryz.func118 (by kernel_rfl) (by kernel_rfl) (by kernel_rfl) (by kernel_rfl);have V:=@run_callFunc_extern Tryz.prog 179 _ (ReflectliteType.relation "AssignableTo" ReflectliteType.assignableTo) Tryz.func179 (by kernel_rfl) (by kernel_rfl) (by kernel_rfl) (by kernel_rfl)
  have W:=@run_callFunc_extern Tryz.prog 119 _ (ReflectliteValue.method (ReflectliteValue.valueError "reflectlite.Value.Elem" 0) ReflectliteValue.elem) Tryz.func119 (by kernel_rfl) (by kernel_rfl) (by kernel_rfl) (by kernel_rfl)
  have Y:=@run_callFunc_extern Tryz.prog 120 _ ReflectliteValue.set Tryz.func120 (by kernel_rfl) (by kernel_rfl) (by kernel_rfl) (by kernel_rfl);have tO:=r_Q;have mA:=r_N;have a0:=r_R;have a1:=r_S;have f6:=r_F;have f7:=r_G;have mK:=r_H;have mE:=r_L;have mI:=r_M;have a2:=r_I;have a3:=r_J;have a4:=r_O;have a5:=r_P;have n8:=r_K ⟨w.heap.size,0,none⟩ t ((w.alloc<|.cells #[.pointer (some t)] 86).alloc (.cells #[.pointer (some ⟨1,86,none⟩),.pointer<|some ⟨w.heap.size,0,none⟩,.int .u64 150] 124)) (by simp);have hlt:0<w.heap.size:=World.block_lt_of_cell? w _ hg
  have a6:((w.alloc<|.cells #[.pointer (some t)] 86).alloc (.cells #[.pointer (some ⟨1,86,none⟩),.pointer<|some ⟨w.heap.size,0,none⟩,.int .u64 150] 124)).cell? ⟨0,0,none⟩=some (.iface 150<|.agg #[.pointer (some ⟨1,81,none⟩)]):=by
    rw [World.cell?_alloc_lt _ _ ⟨0,0,none⟩ (by simp <;> omega),World.cell?_alloc_lt _ _ ⟨0,0,none⟩ hlt];exact hg
  have htl:t.block<w.heap.size:=by
    rcases Nat.lt_or_ge t.block w.heap.size with h | h
    . exact h
    . simp [World.cell?,Array.getElem?_eq_none h] at G
  have el:=r_V ⟨w.heap.size,0,none⟩ t (((w.alloc<|.cells #[.pointer (some t)] 86).alloc (.cells #[.pointer (some ⟨1,86,none⟩),.pointer<|some ⟨w.heap.size,0,none⟩,.int .u64 150] 124)).alloc (.cells #[.pointer (some ⟨1,86,none⟩),.pointer<|some ⟨w.heap.size,0,none⟩,.int .u64 150] 124)) (by rw [World.cell?_alloc_lt _ _ ⟨w.heap.size,0,none⟩ (by simp;omega)];simp)
  have st:=r_Z t ⟨w.heap.size+1+1+1,0,none⟩ e old ((((w.alloc<|.cells #[.pointer (some t)] 86).alloc (.cells #[.pointer (some ⟨1,86,none⟩),.pointer<|some ⟨w.heap.size,0,none⟩,.int .u64 150] 124)).alloc (.cells #[.pointer (some ⟨1,86,none⟩),.pointer<|some ⟨w.heap.size,0,none⟩,.int .u64 150] 124)).alloc (.cells #[.pointer (some e)] 84))
    (by rw [World.cell?_alloc_at _ _ _ _ (by simp)];rfl)
    (by rw [World.cell?_alloc_lt _ _ t (by simp;omega),World.cell?_alloc_lt _ _ t (by simp;omega),World.cell?_alloc_lt _ _ t (by simp;omega),World.cell?_alloc_lt _ _ t htl];exact G)
    (by rw [World.frozen?_alloc_old _ _ t (by simp;omega),World.frozen?_alloc_old _ _ t (by simp;omega),World.frozen?_alloc_old _ _ t (by simp;omega),World.frozen?_alloc_old _ _ t<|Nat.ne_of_lt htl];exact H)
  go_enter Tryz.func57,Tryz.ntmps57
  go_wp2
  refine wp_loop_rounds 1 ?_
  rw [rounds_succ]
  go_wp2
  go_ret
  exact ⟨rfl,rfl⟩
theorem s_0 {S:List Nat}{v t:Value}{w:World}{o:Option (Int×Int)}(h:a_G 84 w S v o)(ho:o.isSome=false):n_ Tryz.prog 57 [v,t] w (λr w'=>vB false=r/\Below w.heap.size w w'):=by
  cases o with
  | some _=>cases ho
  | none =>
  obtain ⟨rfl,_⟩:=h;exact ⟨(as_nil t w).mono λe w' ⟨he,hw⟩=>⟨_,he,rfl,hw ▸ Below.refl _ _⟩⟩
theorem s_1 {S:List Nat}{v:Value}{w:World}{B:Zone}{g:Nat}{o:Option (Int×Int)}{p c:Int}(hG:Gl w B)(h:a_G 84 w S v o)(ho:o=some (p,c))(hb:Blk w g [.pointer none]) :
    n_ Tryz.prog 57 [v,.iface 86<|.pointer<|some ⟨g,0,none⟩] w (λr w'=>∃ge,vB true=r/\Chg (· = g) w w'/\Blk w' g [.pointer (some ⟨ge,0,none⟩)]/\Blk w ge [vI p,vI c]/\ge∈S/\inI p/\inI c):=by
  subst ho;obtain ⟨b,rfl,rfl,hbk,hp,hc⟩:=h;refine ⟨(as_hit ⟨b,0,none⟩ ⟨g,0,none⟩ (.pointer none) w (gl_err hG) (hb.at rfl)<|hb.free (i:=0) Nat.zero_lt_one).mono λe w' ⟨he,hw⟩=>⟨_,he,b,rfl,?_,?_,hbk,List.mem_singleton.2 rfl,hp,hc⟩⟩
  . subst hw;exact as_chg hb
  . subst hw;exact as_blk hb
end
end Go.Vw
