/- The package-level variables, and the library's functions that are called. -/
import Derived.Test.YtelphaiofendpaaGreatDoorVmA
import Derived.WalkKit
import Derived.LaidEql
import Derived.Stop.Asserts
import Derived.RowKitTokens
import Derived.Test.YtelphaiofendpaaGreatDoorShelf
set_option linter.unusedVariables false
namespace Go.Vw
open Go.RowKit Dat Go.Proofs
/-- What the variables hold. -/
def GD (w:World):Prop:=Lib.TabIs Tryz.prog w "internal/strconv.uint64pow10" .u64 Lib.pow10Tab/\w.cell? ⟨0,0,none⟩=some (.iface 193 (.agg #[.pointer (some ⟨5,139,none⟩)]))
abbrev Gl:World->Zone->Prop:=GlW 5 GD
theorem gl_err {w:World}{B:Zone}(h:Gl w B):w.cell? ⟨0,0,none⟩=some (.iface 193<|.agg #[.pointer (some ⟨5,139,none⟩)]):=h.cell (λ_ h=>h.2) (by decide)
theorem gl_tab {w:World}{B:Zone}(h:Gl w B):Lib.TabIs Tryz.prog w "internal/strconv.uint64pow10" .u64 Lib.pow10Tab:=h.tab (λ_ h=>h.1) (by kernel_rfl:Tryz.prog.globalNamed "internal/strconv.uint64pow10" = some 1) (by decide)
def p_F (w0:World)(B:Zone)(r:Str)(v:Value)(w':World):Prop:=Below w0.heap.size w0 w'/\(λG=>(Str.v G)=v/\G.b.length<=LEN) r
theorem p_G {B:Zone}{x1:Int}{res:Str}{w0:World}(hm:k_9 x1=some res)(H:B<=w0.heap.size)(hG:Gl w0 B)(G:inI x1):l_ Tryz.prog 143 [vI x1] w0 (p_F w0 B res):=by
  obtain rfl:=som hm;exact (p_B<|Tryz.strconv_Itoa x1 (by unfold inI at G;omega) (by unfold inI at G;omega) w0<|gl_tab hG).mono λv w' h=>⟨h.2,h.1,Nat.le_trans (Lib.itoa_length_le x1 (by unfold inI at G;omega) (by unfold inI at G;omega))<|Nat.le_of_ble_eq_true rfl⟩
def p_H (w0:World)(B:Zone)(r:Str)(v:Value)(w':World):Prop:=Below w0.heap.size w0 w'/\(λG=>(Str.v G)=v/\G.b.length<=LEN) r
theorem p_I {B:Zone}{x1:List Str}{x2:Str}{res:Str}{A0:Option Addr}{N0 C0:Nat}{w0:World}(hm:j_3 x1 x2=some res)(H:B<=w0.heap.size)(G:repS w0 B (.slice A0 N0 C0) x1)(I:x2.b.length<=LEN):l_ Tryz.prog 144 [.slice A0 N0 C0,Str.v x2] w0 (p_H w0 B res):=by
  obtain ⟨rfl,hc,hN,h⟩:=q_P G;unfold j_3 at hm
  split at hm
  . rename_i hle
    obtain rfl:=som hm
    rcases h with rfl | ⟨b,o,rfl,hb,hcells⟩
    . exact ⟨(Tryz.strings_Join_none A0 C0 ⟨x2.b.toArray⟩ w0).mono λe w' ⟨he,hw⟩=>⟨_,he,hw ▸ g_I w0,rfl,hle⟩⟩
    . have hj:=Tryz.strings_Join b o C0 (x1.map (λs=>(⟨s.b.toArray⟩:ByteArray))) ⟨x2.b.toArray⟩ w0 hcells (zt' H (Nat.le_refl _) b hb) (by rw [List.length_map];exact hN) (by rw [List.length_map];exact hc) (by
        have:=congrArg (λz:ByteArray=>z.data.size)<|m_G x1 x2
        simp only [List.size_toArray] at this
        rw [this];exact hle)
      rw [m_G,List.length_map] at hj
      exact q_Q hj λw' hw=>⟨hw,rfl,hle⟩
  . cases hm
section
open Go.Extern.Stop Go.Stop Go.Extern
/-! ### errors.As at one target type (after the kit's worked example) -/
theorem as_nil (t:Value)(w:World):Calls Tryz.prog 99 #[.nilIface,t] w λe w'=>e = .returned (.bool false)/\w'=w:=by
  go_enter Tryz.func99,Tryz.ntmps99
  go_wp2
  go_ret
  exact ⟨rfl,rfl⟩
theorem p_J (t:Addr)(w:World):(ReflectliteValue.unpack<|.iface 144<|.pointer<|some t).run Tryz.prog w
    = .ok (.agg #[.pointer (some ⟨5,144,none⟩),.pointer<|some ⟨w.heap.size,0,none⟩,.int .u64 150]) (w.alloc<|.cells #[.pointer (some t)] 144):=by kernel_rfl
theorem p_K (a:Addr)(w:World):(ReflectliteValue.methodAny (ReflectliteValue.valueError "reflectlite.Value.Type" 0) (λt _ _ _=>ReflectliteType.toType t) #[.agg #[.pointer (some ⟨5,144,none⟩),.pointer (some a),.int .u64 150]]).run Tryz.prog w
    = .ok (.iface 193<|.agg #[.pointer (some ⟨5,144,none⟩)]) w:=by kernel_rfl
theorem p_L (h:Value)(w:World):(Go.method 360 193 (.agg #[h]) "Kind").run Tryz.prog w = .ok (192,h) w:=by kernel_rfl
theorem p_M (w:World):((ReflectliteType.abiMethod λt=>Functor.map (λa:Nat=>Value.int IntKind.u8 (a:Int))<|Rtype.kind t) #[.pointer (some ⟨5,144,none⟩)]).run Tryz.prog w = .ok (.int .u8 22) w:=by kernel_rfl
theorem p_N (w:World):((ReflectliteType.abiMethod λt=>Functor.map (λa:Nat=>Value.int IntKind.u8 (a:Int))<|Rtype.kind t) #[.pointer (some ⟨5,142,none⟩)]).run Tryz.prog w = .ok (.int .u8 22) w:=by kernel_rfl
theorem m_p (z:Sem Value)(f:TypeId->Addr->Nat->Nat->Sem Value)(v:Value) :
    ReflectliteValue.method z f #[v]=(do match ← ReflectliteValue.parts v with | none=>z | some (t,a,fl)=>f t a fl<|fl % 32):=rfl
theorem m_q (a:Addr)(w:World):(ReflectliteValue.parts<|.agg #[.pointer (some ⟨5,144,none⟩),.pointer<|some a,.int .u64 150]).run Tryz.prog w = .ok (some (144,a,150)) w:=by kernel_rfl
theorem p_O (a p:Addr)(W:World)(ha:W.cell? a=some (.pointer<|some p)) :
    (ReflectliteValue.method (ReflectliteValue.valueError "reflectlite.Value.IsNil" 0) ReflectliteValue.isNil #[.agg #[.pointer (some ⟨5,144,none⟩),.pointer (some a),.int .u64 150]]).run Tryz.prog W = .ok (.bool false) W:=by
  rw [m_p]
  simp only [Sem.run_bind,m_q,Result.andThen]
  simp [ReflectliteValue.isNil,loadVar,isAgg,underlying,Tryz.underlying144,ha,Result.andThen]
theorem p_P (h:Value)(w:World):(Go.method 360 193 (.agg #[h]) "Elem").run Tryz.prog w = .ok (202,.agg #[h]) w:=by kernel_rfl
theorem p_Q (h:Value)(w:World):(Go.method 360 193 (.agg #[h]) "Implements").run Tryz.prog w = .ok (203,.agg #[h]) w:=by kernel_rfl
theorem p_R (h:Value)(w:World):(Go.method 360 193 (.agg #[h]) "AssignableTo").run Tryz.prog w = .ok (200,.agg #[h]) w:=by kernel_rfl
theorem p_S (w:World):(ReflectliteType.method ReflectliteType.elem #[.agg #[.pointer (some ⟨5,144,none⟩)]]).run Tryz.prog w = .ok (.iface 193<|.agg #[.pointer (some ⟨5,142,none⟩)]) w:=by kernel_rfl
theorem p_T (w:World):(ReflectliteType.relation "Implements" ReflectliteType.implements_ #[.agg #[.pointer (some ⟨5,142,none⟩)],.iface 193 (.agg #[.pointer (some ⟨5,139,none⟩)])]).run Tryz.prog w = .ok (.bool true) w:=by kernel_rfl
theorem p_U (v:Value)(w:World):(ReflectliteType.typeOf #[.iface 142 v]).run Tryz.prog w = .ok (.iface 193<|.agg #[.pointer (some ⟨5,142,none⟩)]) w:=by kernel_rfl
theorem p_V (w:World):(ReflectliteType.relation "AssignableTo" ReflectliteType.assignableTo #[.agg #[.pointer (some ⟨5,142,none⟩)],.iface 193 (.agg #[.pointer (some ⟨5,142,none⟩)])]).run Tryz.prog w = .ok (.bool true) w:=by kernel_rfl
theorem p_W (e:Addr)(w:World):(ReflectliteValue.unpack<|.iface 142<|.pointer<|some e).run Tryz.prog w
    = .ok (.agg #[.pointer (some ⟨5,142,none⟩),.pointer<|some ⟨w.heap.size,0,none⟩,.int .u64 150]) (w.alloc<|.cells #[.pointer (some e)] 142):=by kernel_rfl
theorem p_X (w:World):(Rtype.elem? 144).run Tryz.prog w = .ok (some 142) w:=by kernel_rfl
theorem p_Y (p:Addr)(w:World):(ReflectliteValue.mk 142 p ReflectliteValue.flagAddr).run Tryz.prog w = .ok (.agg #[.pointer (some ⟨5,142,none⟩),.pointer<|some p,.int .u64 406]) w:=by kernel_rfl
theorem p_Z (a p:Addr)(W:World)(ha:W.cell? a=some (.pointer<|some p)) :
    (ReflectliteValue.method (ReflectliteValue.valueError "reflectlite.Value.Elem" 0) ReflectliteValue.elem #[.agg #[.pointer (some ⟨5,144,none⟩),.pointer (some a),.int .u64 150]]).run Tryz.prog W
      = .ok (.agg #[.pointer (some ⟨5,142,none⟩),.pointer<|some p,.int .u64 406]) W:=by
  rw [m_p]
  simp only [Sem.run_bind,m_q,Result.andThen]
  simp [ReflectliteValue.elem,loadVar,isAgg,underlying,Tryz.underlying144,ha,Result.andThen,p_X,p_Y]
theorem as_rls (v x:Value):ReflectliteValue.set #[v,x]=(do
    let (some (dst,a,fl),some (src,b,_)):=(← ReflectliteValue.parts v,← ReflectliteValue.parts x)
      | unsupported (.noEntry "extern/(internal/reflectlite.Value).Set.zeroValue")
    if fl / ReflectliteValue.flagAddr % 2==0 then unsupported (.noEntry "extern/(internal/reflectlite.Value).Set.unaddressable")
    let val ← loadVar src b
    if ← Rtype.directlyAssignable dst src then storeVar dst a val
    else if ← Rtype.implements dst src then
      if (← Rtype.kind src)==20 then
        match val with
        | .nilIface=>unsupported (.noEntry "extern/reflectlite: a nil value of one interface type handed on as a value of another")
        | _=>storeVar dst a val
      else storeVar dst a (.iface src val)
    else panicString ("reflectlite.Set: value of type " ++ (← Rtype.spelt src) ++ " is not assignable to type " ++ (← Rtype.spelt dst))
    pure (.tuple #[])):=rfl
theorem q_0 (a:Addr)(w:World):(ReflectliteValue.parts<|.agg #[.pointer (some ⟨5,142,none⟩),.pointer<|some a,.int .u64 406]).run Tryz.prog w = .ok (some (142,a,406)) w:=by kernel_rfl
theorem q_1 (a:Addr)(w:World):(ReflectliteValue.parts<|.agg #[.pointer (some ⟨5,142,none⟩),.pointer<|some a,.int .u64 150]).run Tryz.prog w = .ok (some (142,a,150)) w:=by kernel_rfl
theorem q_2 (w:World):(Rtype.directlyAssignable 142 142).run Tryz.prog w = .ok true w:=by kernel_rfl
theorem as_size25 (w:World):(sizeOf 142).run Tryz.prog w = .ok 1 w:=by kernel_rfl
theorem q_3 (ta b e:Addr)(old:Value)(W:World)(hb:W.cell? b=some (.pointer<|some e))(ht:W.cell? ta=some old)(hf:W.frozen? ta=false) :
    (ReflectliteValue.set #[.agg #[.pointer (some ⟨5,142,none⟩),.pointer<|some ta,.int .u64 406],.agg #[.pointer (some ⟨5,142,none⟩),.pointer<|some b,.int .u64 150]]).run Tryz.prog W
      = .ok (.tuple #[]) (W.setCell ta<|.pointer<|some e):=by
  rw [as_rls]
  simp only [Sem.run_bind,q_0,q_1,Result.andThen]
  simp [ReflectliteValue.flagAddr,loadVar,isAgg,underlying,Tryz.underlying142,hb,Result.andThen,q_2,storeVar,Value.cells,storeCells,Addr.add]
  rw [run_store Tryz.prog W ta _ _ (by rfl)]
  simp [ht,hf]
set_option maxHeartbeats 4000000 in
theorem as_hit (e t:Addr)(old:Value)(w:World)(hg:w.cell? ⟨0,0,none⟩=some (.iface 193<|.agg #[.pointer (some ⟨5,139,none⟩)]))(G:w.cell? t=some old)(H:w.frozen? t=false) :
    Calls Tryz.prog 99 #[.iface 142 (.pointer<|some e),.iface 144<|.pointer<|some t] w λev w'=>ev = .returned (.bool true)/\w'=((((w.alloc<|.cells #[.pointer (some t)] 144).alloc (.cells #[.pointer (some ⟨5,144,none⟩),.pointer<|some ⟨w.heap.size,0,none⟩,.int .u64 150] 178)).alloc (.cells #[.pointer (some ⟨5,144,none⟩),.pointer<|some ⟨w.heap.size,0,none⟩,.int .u64 150] 178)).alloc (.cells #[.pointer (some e)] 142)).setCell t (.pointer<|some e):=by
  have h6:=@run_callFunc_extern Tryz.prog 137 _ (λargs=>ReflectliteValue.unpack (args.getD 0 (.tuple #[]))) Tryz.func137 (by kernel_rfl) (by kernel_rfl) (by kernel_rfl) (by kernel_rfl);have h7:=@run_callFunc_extern Tryz.prog 138 _ (ReflectliteValue.methodAny (ReflectliteValue.valueError "reflectlite.Value.Type" 0) (λt _ _ _=>ReflectliteType.toType t)) Tryz.func138 (by kernel_rfl) (by kernel_rfl) (by kernel_rfl) (by kernel_rfl)
  have h8:=@run_callFunc_extern Tryz.prog 139 _ (ReflectliteValue.method (ReflectliteValue.valueError "reflectlite.Value.IsNil" 0) ReflectliteValue.isNil) Tryz.func139 (by kernel_rfl) (by kernel_rfl) (by kernel_rfl) (by kernel_rfl)
  have I:=@run_callFunc_extern Tryz.prog 192 _ (ReflectliteType.abiMethod λt=>do pure (.int .u8 (← Rtype.kind t))) Tryz.func192 (by kernel_rfl) (by kernel_rfl) (by kernel_rfl) (by kernel_rfl);have J:=@run_callFunc_extern Tryz.prog 202 _ (ReflectliteType.method ReflectliteType.elem) Tryz.func202 (by kernel_rfl) (by kernel_rfl) (by kernel_rfl) (by kernel_rfl);have L:=@run_callFunc_extern Tryz.prog 203 _ (ReflectliteType.relation "Implements" ReflectliteType.implements_) Tryz.func203 (by kernel_rfl) (by kernel_rfl) (by kernel_rfl) (by kernel_rfl)
  have O:=@run_callFunc_extern Tryz.prog 148 _ ReflectliteType.typeOf Tryz.func148 (by kernel_rfl) (by kernel_rfl) (by kernel_rfl) (by kernel_rfl);have V:=@run_callFunc_extern Tryz.prog 200 _ (ReflectliteType.relation "AssignableTo" ReflectliteType.assignableTo) Tryz.func200 (by kernel_rfl) (by kernel_rfl) (by kernel_rfl) (by kernel_rfl)
  have W:=@run_callFunc_extern Tryz.prog 149 _ (ReflectliteValue.method (ReflectliteValue.valueError "reflectlite.Value.Elem" 0) ReflectliteValue.elem) Tryz.func149 (by kernel_rfl) (by kernel_rfl) (by kernel_rfl) (by kernel_rfl)
  have Y:=@run_callFunc_extern Tryz.prog 150 _ ReflectliteValue.set Tryz.func150 (by kernel_rfl) (by kernel_rfl) (by kernel_rfl) (by kernel_rfl);have tO:=p_U;have mA:=p_R;have a0:=p_V;have a1:=p_W;have f6:=p_J;have f7:=p_K;have mK:=p_L;have mE:=p_P;have mI:=p_Q;have a2:=p_M;have a3:=p_N;have a4:=p_S;have a5:=p_T;have n8:=p_O ⟨w.heap.size,0,none⟩ t ((w.alloc<|.cells #[.pointer (some t)] 144).alloc (.cells #[.pointer (some ⟨5,144,none⟩),.pointer<|some ⟨w.heap.size,0,none⟩,.int .u64 150] 178)) (by simp);have hlt:0<w.heap.size:=World.block_lt_of_cell? w _ hg
  have a6:((w.alloc<|.cells #[.pointer (some t)] 144).alloc (.cells #[.pointer (some ⟨5,144,none⟩),.pointer<|some ⟨w.heap.size,0,none⟩,.int .u64 150] 178)).cell? ⟨0,0,none⟩=some (.iface 193<|.agg #[.pointer (some ⟨5,139,none⟩)]):=by
    rw [World.cell?_alloc_lt _ _ ⟨0,0,none⟩ (by simp <;> omega),World.cell?_alloc_lt _ _ ⟨0,0,none⟩ hlt];exact hg
  have htl:t.block<w.heap.size:=by
    rcases Nat.lt_or_ge t.block w.heap.size with h | h
    . exact h
    . simp [World.cell?,Array.getElem?_eq_none h] at G
  have el:=p_Z ⟨w.heap.size,0,none⟩ t (((w.alloc<|.cells #[.pointer (some t)] 144).alloc (.cells #[.pointer (some ⟨5,144,none⟩),.pointer<|some ⟨w.heap.size,0,none⟩,.int .u64 150] 178)).alloc (.cells #[.pointer (some ⟨5,144,none⟩),.pointer<|some ⟨w.heap.size,0,none⟩,.int .u64 150] 178)) (by rw [World.cell?_alloc_lt _ _ ⟨w.heap.size,0,none⟩ (by simp;omega)];simp)
  have st:=q_3 t ⟨w.heap.size+1+1+1,0,none⟩ e old ((((w.alloc<|.cells #[.pointer (some t)] 144).alloc (.cells #[.pointer (some ⟨5,144,none⟩),.pointer<|some ⟨w.heap.size,0,none⟩,.int .u64 150] 178)).alloc (.cells #[.pointer (some ⟨5,144,none⟩),.pointer<|some ⟨w.heap.size,0,none⟩,.int .u64 150] 178)).alloc (.cells #[.pointer (some e)] 142))
    (by rw [World.cell?_alloc_at _ _ _ _ (by simp)];rfl)
    (by rw [World.cell?_alloc_lt _ _ t (by simp;omega),World.cell?_alloc_lt _ _ t (by simp;omega),World.cell?_alloc_lt _ _ t (by simp;omega),World.cell?_alloc_lt _ _ t htl];exact G)
    (by rw [World.frozen?_alloc_old _ _ t (by simp;omega),World.frozen?_alloc_old _ _ t (by simp;omega),World.frozen?_alloc_old _ _ t (by simp;omega),World.frozen?_alloc_old _ _ t<|Nat.ne_of_lt htl];exact H)
  go_enter Tryz.func99,Tryz.ntmps99
  go_wp2
  refine wp_loop_rounds 1 ?_
  rw [rounds_succ]
  go_wp2
  go_ret
  exact ⟨rfl,rfl⟩
theorem q_4 {S:List Nat}{v t:Value}{w:World}{o:Option (Int×Int)}(h:a_R 142 w S v o)(ho:o.isSome=false):l_ Tryz.prog 99 [v,t] w (λr w'=>vB false=r/\Below w.heap.size w w'):=by
  cases o with
  | some _=>cases ho
  | none =>
  obtain ⟨rfl,_⟩:=h;exact ⟨(as_nil t w).mono λe w' ⟨he,hw⟩=>⟨_,he,rfl,hw ▸ Below.refl _ _⟩⟩
theorem q_5 {S:List Nat}{v:Value}{w:World}{B:Zone}{g:Nat}{o:Option (Int×Int)}{p c:Int}(hG:Gl w B)(h:a_R 142 w S v o)(ho:o=some (p,c))(hb:Blk w g [.pointer none]) :
    l_ Tryz.prog 99 [v,.iface 144<|.pointer<|some ⟨g,0,none⟩] w (λr w'=>∃ge,vB true=r/\Chg (· = g) w w'/\Blk w' g [.pointer (some ⟨ge,0,none⟩)]/\Blk w ge [vI p,vI c]/\ge∈S/\inI p/\inI c):=by
  subst ho;obtain ⟨b,rfl,rfl,hbk,hp,hc⟩:=h;refine ⟨(as_hit ⟨b,0,none⟩ ⟨g,0,none⟩ (.pointer none) w (gl_err hG) (hb.at rfl)<|hb.free (i:=0) Nat.zero_lt_one).mono λe w' ⟨he,hw⟩=>⟨_,he,b,rfl,?_,?_,hbk,List.mem_singleton.2 rfl,hp,hc⟩⟩
  . subst hw;exact as_chg hb
  . subst hw;exact as_blk hb
end
end Go.Vw
