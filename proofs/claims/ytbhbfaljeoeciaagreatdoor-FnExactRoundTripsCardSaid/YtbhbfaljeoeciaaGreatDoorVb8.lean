/- The package-level variables, and the library's functions that are called. -/
import Derived.Test.YtbhbfaljeoeciaaGreatDoorV0
import Derived.WalkKit
import Derived.LaidEql
import Derived.Stop.Asserts
import Derived.RowKitTokens
import Derived.Test.YtbhbfaljeoeciaaGreatDoorShelf
set_option linter.unusedVariables false
namespace Go.Vw
open Go.RowKit Dat Go.Proofs
/-- What the variables hold. -/
def GD (w:World):Prop:=Lib.TabIs Tryz.prog w "internal/strconv.uint64pow10" .u64 Lib.pow10Tab/\w.cell? ⟨0,0,none⟩=some (.iface 173 (.agg #[.pointer (some ⟨5,94,none⟩)]))
abbrev Gl:World->Zone->Prop:=GlW 5 GD
theorem gl_err {w:World}{B:Zone}(h:Gl w B):w.cell? ⟨0,0,none⟩=some (.iface 173<|.agg #[.pointer (some ⟨5,94,none⟩)]):=h.cell (fun _ h=>h.2) (by decide)
theorem gl_tab {w:World}{B:Zone}(h:Gl w B):Lib.TabIs Tryz.prog w "internal/strconv.uint64pow10" .u64 Lib.pow10Tab:=h.tab (fun _ h=>h.1) (by kernel_rfl:Tryz.prog.globalNamed "internal/strconv.uint64pow10" = some 1) (by decide)
def q_O (w0:World)(B:Zone)(r:Str)(v:Value)(w':World):Prop:=Below w0.heap.size w0 w'/\(fun G=>(Str.v G)=v/\G.b.length<=LEN) r
theorem q_P {B:Zone}{x1:Int}{res:Str}{w0:World}(hm:j_D x1=some res)(H:B<=w0.heap.size)(hG:Gl w0 B)(G:inI x1):l_ Tryz.prog 122 [vI x1] w0 (q_O w0 B res):=by
  obtain rfl:=som hm;exact (o_w<|Tryz.strconv_Itoa x1 (by unfold inI at G;omega) (by unfold inI at G;omega) w0<|gl_tab hG).mono fun v w' h=>⟨h.2,h.1,Nat.le_trans (Lib.itoa_length_le x1 (by unfold inI at G;omega) (by unfold inI at G;omega))<|Nat.le_of_ble_eq_true rfl⟩
def q_Q (w0:World)(B:Zone)(r:Str)(v:Value)(w':World):Prop:=Below w0.heap.size w0 w'/\(fun G=>(Str.v G)=v/\G.b.length<=LEN) r
theorem q_R {B:Zone}{x1:List Str}{x2:Str}{res:Str}{A0:Option Addr}{N0 C0:Nat}{w0:World}(hm:i_k x1 x2=some res)(H:B<=w0.heap.size)(G:repS w0 B (.slice A0 N0 C0) x1)(I:x2.b.length<=LEN):l_ Tryz.prog 123 [.slice A0 N0 C0,Str.v x2] w0 (q_Q w0 B res):=by
  obtain ⟨rfl,hc,hN,h⟩:=o_A G;unfold i_k at hm
  split at hm
  · rename_i hle
    obtain rfl:=som hm
    rcases h with rfl | ⟨b,o,rfl,hb,hcells⟩
    · exact ⟨(Tryz.strings_Join_none A0 C0 ⟨x2.b.toArray⟩ w0).mono fun e w' ⟨he,hw⟩=>⟨_,he,hw ▸ g_0 w0,rfl,hle⟩⟩
    · have hj:=Tryz.strings_Join b o C0 (x1.map (fun s=>(⟨s.b.toArray⟩:ByteArray))) ⟨x2.b.toArray⟩ w0 hcells (zt' H (Nat.le_refl _) b hb) (by rw [List.length_map];exact hN) (by rw [List.length_map];exact hc) (by
        have:=congrArg (fun z:ByteArray=>z.data.size)<|l_E x1 x2
        simp only [List.size_toArray] at this
        rw [this];exact hle)
      rw [l_E,List.length_map] at hj
      exact o_B hj fun w' hw=>⟨hw,rfl,hle⟩
  · cases hm
section
open Go.Extern.Stop Go.Stop Go.Extern
/-! ### errors.As at one target type (after the kit's worked example) -/
theorem as_nil (t:Value)(w:World):Calls Tryz.prog 65 #[.nilIface,t] w fun e w'=>e = .returned (.bool false)/\w'=w:=by
  go_enter Tryz.func65,Tryz.ntmps65
  go_wp2
  go_ret
  exact ⟨rfl,rfl⟩
theorem q_S (t:Addr)(w:World):(ReflectliteValue.unpack<|.iface 99<|.pointer<|some t).run Tryz.prog w
    = .ok (.agg #[.pointer (some ⟨5,99,none⟩),.pointer<|some ⟨w.heap.size,0,none⟩,.int .u64 150]) (w.alloc<|.cells #[.pointer (some t)] 99):=by kernel_rfl
theorem q_T (a:Addr)(w:World):(ReflectliteValue.methodAny (ReflectliteValue.valueError "reflectlite.Value.Type" 0) (fun t _ _ _=>ReflectliteType.toType t) #[.agg #[.pointer (some ⟨5,99,none⟩),.pointer (some a),.int .u64 150]]).run Tryz.prog w
    = .ok (.iface 173<|.agg #[.pointer (some ⟨5,99,none⟩)]) w:=by kernel_rfl
theorem q_U (h:Value)(w:World):(Go.method 348 173 (.agg #[h]) "Kind").run Tryz.prog w = .ok (195,h) w:=by kernel_rfl
theorem q_V (w:World):((ReflectliteType.abiMethod fun t=>Functor.map (fun a:Nat=>Value.int IntKind.u8 (a:Int))<|Rtype.kind t) #[.pointer (some ⟨5,99,none⟩)]).run Tryz.prog w = .ok (.int .u8 22) w:=by kernel_rfl
theorem q_W (w:World):((ReflectliteType.abiMethod fun t=>Functor.map (fun a:Nat=>Value.int IntKind.u8 (a:Int))<|Rtype.kind t) #[.pointer (some ⟨5,97,none⟩)]).run Tryz.prog w = .ok (.int .u8 22) w:=by kernel_rfl
theorem n_0 (z:Sem Value)(f:TypeId->Addr->Nat->Nat->Sem Value)(v:Value) :
    ReflectliteValue.method z f #[v]=(do match ← ReflectliteValue.parts v with | none=>z | some (t,a,fl)=>f t a fl<|fl % 32):=rfl
theorem n_1 (a:Addr)(w:World):(ReflectliteValue.parts<|.agg #[.pointer (some ⟨5,99,none⟩),.pointer<|some a,.int .u64 150]).run Tryz.prog w = .ok (some (99,a,150)) w:=by kernel_rfl
theorem q_X (a p:Addr)(W:World)(ha:W.cell? a=some (.pointer<|some p)) :
    (ReflectliteValue.method (ReflectliteValue.valueError "reflectlite.Value.IsNil" 0) ReflectliteValue.isNil #[.agg #[.pointer (some ⟨5,99,none⟩),.pointer (some a),.int .u64 150]]).run Tryz.prog W = .ok (.bool false) W:=by
  rw [n_0]
  simp only [Sem.run_bind,n_1,Result.andThen]
  simp [ReflectliteValue.isNil,loadVar,isAgg,underlying,Tryz.underlying99,ha,Result.andThen]
theorem q_Y (h:Value)(w:World):(Go.method 348 173 (.agg #[h]) "Elem").run Tryz.prog w = .ok (205,.agg #[h]) w:=by kernel_rfl
theorem q_Z (h:Value)(w:World):(Go.method 348 173 (.agg #[h]) "Implements").run Tryz.prog w = .ok (206,.agg #[h]) w:=by kernel_rfl
theorem r_0 (h:Value)(w:World):(Go.method 348 173 (.agg #[h]) "AssignableTo").run Tryz.prog w = .ok (203,.agg #[h]) w:=by kernel_rfl
theorem r_1 (w:World):(ReflectliteType.method ReflectliteType.elem #[.agg #[.pointer (some ⟨5,99,none⟩)]]).run Tryz.prog w = .ok (.iface 173<|.agg #[.pointer (some ⟨5,97,none⟩)]) w:=by kernel_rfl
theorem r_2 (w:World):(ReflectliteType.relation "Implements" ReflectliteType.implements_ #[.agg #[.pointer (some ⟨5,97,none⟩)],.iface 173 (.agg #[.pointer (some ⟨5,94,none⟩)])]).run Tryz.prog w = .ok (.bool true) w:=by kernel_rfl
theorem r_3 (v:Value)(w:World):(ReflectliteType.typeOf #[.iface 97 v]).run Tryz.prog w = .ok (.iface 173<|.agg #[.pointer (some ⟨5,97,none⟩)]) w:=by kernel_rfl
theorem r_4 (w:World):(ReflectliteType.relation "AssignableTo" ReflectliteType.assignableTo #[.agg #[.pointer (some ⟨5,97,none⟩)],.iface 173 (.agg #[.pointer (some ⟨5,97,none⟩)])]).run Tryz.prog w = .ok (.bool true) w:=by kernel_rfl
theorem r_5 (e:Addr)(w:World):(ReflectliteValue.unpack<|.iface 97<|.pointer<|some e).run Tryz.prog w
    = .ok (.agg #[.pointer (some ⟨5,97,none⟩),.pointer<|some ⟨w.heap.size,0,none⟩,.int .u64 150]) (w.alloc<|.cells #[.pointer (some e)] 97):=by kernel_rfl
theorem r_6 (w:World):(Rtype.elem? 99).run Tryz.prog w = .ok (some 97) w:=by kernel_rfl
theorem r_7 (p:Addr)(w:World):(ReflectliteValue.mk 97 p ReflectliteValue.flagAddr).run Tryz.prog w = .ok (.agg #[.pointer (some ⟨5,97,none⟩),.pointer<|some p,.int .u64 406]) w:=by kernel_rfl
theorem r_8 (a p:Addr)(W:World)(ha:W.cell? a=some (.pointer<|some p)) :
    (ReflectliteValue.method (ReflectliteValue.valueError "reflectlite.Value.Elem" 0) ReflectliteValue.elem #[.agg #[.pointer (some ⟨5,99,none⟩),.pointer (some a),.int .u64 150]]).run Tryz.prog W
      = .ok (.agg #[.pointer (some ⟨5,97,none⟩),.pointer<|some p,.int .u64 406]) W:=by
  rw [n_0]
  simp only [Sem.run_bind,n_1,Result.andThen]
  simp [ReflectliteValue.elem,loadVar,isAgg,underlying,Tryz.underlying99,ha,Result.andThen,r_6,r_7]
theorem as_rls (v x:Value):ReflectliteValue.set #[v,x]=(do
    let (some (dst,a,fl),some (src,b,_)):=(← ReflectliteValue.parts v,← ReflectliteValue.parts x)
      | unsupported (.noEntry "extern/(internal/reflectlite.Value).Set.zeroValue")
    if fl / ReflectliteValue.flagAddr % 2==0 then unsupported (.noEntry "extern/(internal/reflectlite.Value).Set.unaddressable")
    let val ← loadVar src b
    if ← Rtype.directlyAssignable dst src then storeVar dst a val
    else if ← Rtype.implements dst src then
      if (← Rtype.kind src)==20 then
        match val with
        | .nilIface=>unsupported (.noEntry "extern/reflectlite: a nil value of one interface type handed on as a value of another")
        | _=>storeVar dst a val
      else storeVar dst a (.iface src val)
    else panicString ("reflectlite.Set: value of type " ++ (← Rtype.spelt src) ++ " is not assignable to type " ++ (← Rtype.spelt dst))
    pure (.tuple #[])):=rfl
theorem r_9 (a:Addr)(w:World):(ReflectliteValue.parts<|.agg #[.pointer (some ⟨5,97,none⟩),.pointer<|some a,.int .u64 406]).run Tryz.prog w = .ok (some (97,a,406)) w:=by kernel_rfl
theorem r_a (a:Addr)(w:World):(ReflectliteValue.parts<|.agg #[.pointer (some ⟨5,97,none⟩),.pointer<|some a,.int .u64 150]).run Tryz.prog w = .ok (some (97,a,150)) w:=by kernel_rfl
theorem r_b (w:World):(Rtype.directlyAssignable 97 97).run Tryz.prog w = .ok true w:=by kernel_rfl
theorem as_size25 (w:World):(sizeOf 97).run Tryz.prog w = .ok 1 w:=by kernel_rfl
theorem r_c (ta b e:Addr)(old:Value)(W:World)(hb:W.cell? b=some (.pointer<|some e))(ht:W.cell? ta=some old)(hf:W.frozen? ta=false) :
    (ReflectliteValue.set #[.agg #[.pointer (some ⟨5,97,none⟩),.pointer<|some ta,.int .u64 406],.agg #[.pointer (some ⟨5,97,none⟩),.pointer<|some b,.int .u64 150]]).run Tryz.prog W
      = .ok (.tuple #[]) (W.setCell ta<|.pointer<|some e):=by
  rw [as_rls]
  simp only [Sem.run_bind,r_9,r_a,Result.andThen]
  simp [ReflectliteValue.flagAddr,loadVar,isAgg,underlying,Tryz.underlying97,hb,Result.andThen,r_b,storeVar,Value.cells,storeCells,Addr.add]
  rw [run_store Tryz.prog W ta _ _ (by rfl)]
  simp [ht,hf]
set_option maxHeartbeats 4000000 in
theorem as_hit (e t:Addr)(old:Value)(w:World)(hg:w.cell? ⟨0,0,none⟩=some (.iface 173<|.agg #[.pointer (some ⟨5,94,none⟩)]))(G:w.cell? t=some old)(H:w.frozen? t=false) :
    Calls Tryz.prog 65 #[.iface 97 (.pointer<|some e),.iface 99<|.pointer<|some t] w fun ev w'=>ev = .returned (.bool true)/\w'=((((w.alloc<|.cells #[.pointer (some t)] 99).alloc (.cells #[.pointer (some ⟨5,99,none⟩),.pointer<|some ⟨w.heap.size,0,none⟩,.int .u64 150] 146)).alloc (.cells #[.pointer (some ⟨5,99,none⟩),.pointer<|some ⟨w.heap.size,0,none⟩,.int .u64 150] 146)).alloc (.cells #[.pointer (some e)] 97)).setCell t (.pointer<|some e):=by
  have h6:=@run_callFunc_extern Tryz.prog 111 _ (fun args=>ReflectliteValue.unpack (args.getD 0 (.tuple #[]))) Tryz.func111 (by kernel_rfl) (by kernel_rfl) (by kernel_rfl) (by kernel_rfl);have h7:=@run_callFunc_extern Tryz.prog 112 _ (ReflectliteValue.methodAny (ReflectliteValue.valueError "reflectlite.Value.Type" 0) (fun t _ _ _=>ReflectliteType.toType t)) Tryz.func112 (by kernel_rfl) (by kernel_rfl) (by kernel_rfl) (by kernel_rfl)
  have h8:=@run_callFunc_extern Tryz.prog 113 _ (ReflectliteValue.method (ReflectliteValue.valueError "reflectlite.Value.IsNil" 0) ReflectliteValue.isNil) Tryz.func113 (by kernel_rfl) (by kernel_rfl) (by kernel_rfl) (by kernel_rfl)
  have I:=@run_callFunc_extern Tryz.prog 195 _ (ReflectliteType.abiMethod fun t=>do pure (.int .u8 (← Rtype.kind t))) Tryz.func195 (by kernel_rfl) (by kernel_rfl) (by kernel_rfl) (by kernel_rfl);have J:=@run_callFunc_extern Tryz.prog 205 _ (ReflectliteType.method ReflectliteType.elem) Tryz.func205 (by kernel_rfl) (by kernel_rfl) (by kernel_rfl) (by kernel_rfl);have L:=@run_callFunc_extern Tryz.prog 206 _ (ReflectliteType.relation "Implements" ReflectliteType.implements_) Tryz.func206 (by kernel_rfl) (by kernel_rfl) (by kernel_rfl) (by kernel_rfl)
  have O:=@run_callFunc_extern Tryz.prog 135 _ ReflectliteType.typeOf Tryz.func135 (by kernel_rfl) (by kernel_rfl) (by kernel_rfl) (by kernel_rfl);have V:=@run_callFunc_extern Tryz.prog 203 _ (ReflectliteType.relation "AssignableTo" ReflectliteType.assignableTo) Tryz.func203 (by kernel_rfl) (by kernel_rfl) (by kernel_rfl) (by kernel_rfl)
  have W:=@run_callFunc_extern Tryz.prog 136 _ (ReflectliteValue.method (ReflectliteValue.valueError "reflectlite.Value.Elem" 0) ReflectliteValue.elem) Tryz.func136 (by kernel_rfl) (by kernel_rfl) (by kernel_rfl) (by kernel_rfl)
  have Y:=@run_callFunc_extern Tryz.prog 137 _ ReflectliteValue.set Tryz.func137 (by kernel_rfl) (by kernel_rfl) (by kernel_rfl) (by kernel_rfl);have tO:=r_3;have mA:=r_0;have a0:=r_4;have a1:=r_5;have f6:=q_S;have f7:=q_T;have mK:=q_U;have mE:=q_Y;have mI:=q_Z;have a2:=q_V;have a3:=q_W;have a4:=r_1;have a5:=r_2;have n8:=q_X ⟨w.heap.size,0,none⟩ t ((w.alloc<|.cells #[.pointer (some t)] 99).alloc (.cells #[.pointer (some ⟨5,99,none⟩),.pointer<|some ⟨w.heap.size,0,none⟩,.int .u64 150] 146)) (by simp);have hlt:0<w.heap.size:=World.block_lt_of_cell? w _ hg
  have a6:((w.alloc<|.cells #[.pointer (some t)] 99).alloc (.cells #[.pointer (some ⟨5,99,none⟩),.pointer<|some ⟨w.heap.size,0,none⟩,.int .u64 150] 146)).cell? ⟨0,0,none⟩=some (.iface 173<|.agg #[.pointer (some ⟨5,94,none⟩)]):=by
    rw [World.cell?_alloc_lt _ _ ⟨0,0,none⟩ (by simp <;> omega),World.cell?_alloc_lt _ _ ⟨0,0,none⟩ hlt];exact hg
  have htl:t.block<w.heap.size:=by
    rcases Nat.lt_or_ge t.block w.heap.size with h | h
    · exact h
    · simp [World.cell?,Array.getElem?_eq_none h] at G
  have el:=r_8 ⟨w.heap.size,0,none⟩ t (((w.alloc<|.cells #[.pointer (some t)] 99).alloc (.cells #[.pointer (some ⟨5,99,none⟩),.pointer<|some ⟨w.heap.size,0,none⟩,.int .u64 150] 146)).alloc (.cells #[.pointer (some ⟨5,99,none⟩),.pointer<|some ⟨w.heap.size,0,none⟩,.int .u64 150] 146)) (by rw [World.cell?_alloc_lt _ _ ⟨w.heap.size,0,none⟩ (by simp;omega)];simp)
  have st:=r_c t ⟨w.heap.size+1+1+1,0,none⟩ e old ((((w.alloc<|.cells #[.pointer (some t)] 99).alloc (.cells #[.pointer (some ⟨5,99,none⟩),.pointer<|some ⟨w.heap.size,0,none⟩,.int .u64 150] 146)).alloc (.cells #[.pointer (some ⟨5,99,none⟩),.pointer<|some ⟨w.heap.size,0,none⟩,.int .u64 150] 146)).alloc (.cells #[.pointer (some e)] 97))
    (by rw [World.cell?_alloc_at _ _ _ _ (by simp)];rfl)
    (by rw [World.cell?_alloc_lt _ _ t (by simp;omega),World.cell?_alloc_lt _ _ t (by simp;omega),World.cell?_alloc_lt _ _ t (by simp;omega),World.cell?_alloc_lt _ _ t htl];exact G)
    (by rw [World.frozen?_alloc_old _ _ t (by simp;omega),World.frozen?_alloc_old _ _ t (by simp;omega),World.frozen?_alloc_old _ _ t (by simp;omega),World.frozen?_alloc_old _ _ t<|Nat.ne_of_lt htl];exact H)
  go_enter Tryz.func65,Tryz.ntmps65
  go_wp2
  refine wp_loop_rounds 1 ?_
  rw [rounds_succ]
  go_wp2
  go_ret
  exact ⟨rfl,rfl⟩
theorem r_d {S:List Nat}{v t:Value}{w:World}{o:Option (Int×Int)}(h:a_x 97 w S v o)(ho:o.isSome=false):l_ Tryz.prog 65 [v,t] w (fun r w'=>vB false=r/\Below w.heap.size w w'):=by
  cases o with
  | some _=>cases ho
  | none =>
  obtain ⟨rfl,_⟩:=h;exact ⟨(as_nil t w).mono fun e w' ⟨he,hw⟩=>⟨_,he,rfl,hw ▸ Below.refl _ _⟩⟩
theorem r_e {S:List Nat}{v:Value}{w:World}{B:Zone}{g:Nat}{o:Option (Int×Int)}{p c:Int}(hG:Gl w B)(h:a_x 97 w S v o)(ho:o=some (p,c))(hb:Blk w g [.pointer none]) :
    l_ Tryz.prog 65 [v,.iface 99<|.pointer<|some ⟨g,0,none⟩] w (fun r w'=>∃ge,vB true=r/\Chg (· = g) w w'/\Blk w' g [.pointer (some ⟨ge,0,none⟩)]/\Blk w ge [vI p,vI c]/\ge∈S/\inI p/\inI c):=by
  subst ho;obtain ⟨b,rfl,rfl,hbk,hp,hc⟩:=h;refine ⟨(as_hit ⟨b,0,none⟩ ⟨g,0,none⟩ (.pointer none) w (gl_err hG) (hb.at rfl)<|hb.free (i:=0) Nat.zero_lt_one).mono fun e w' ⟨he,hw⟩=>⟨_,he,b,rfl,?_,?_,hbk,List.mem_singleton.2 rfl,hp,hc⟩⟩
  · subst hw;exact as_chg hb
  · subst hw;exact as_blk hb
end
end Go.Vw
