/- The package-level variables, and the library's functions that are called. -/
import Derived.Test.YtjdphpimefbinaaGreatDoorV0
import Derived.WalkKit
import Derived.LaidEql
import Derived.Stop.Asserts
import Derived.RowKitTokens
import Derived.Test.YtjdphpimefbinaaGreatDoorShelf
set_option linter.unusedVariables false
namespace Go.Vw
open Go.RowKit Dat Go.Proofs
/-- What the variables hold. -/
def GD (w:World):Prop:=Lib.TabIs Tryz.prog w "internal/strconv.uint64pow10" .u64 Lib.pow10Tab/\w.cell? ⟨0,0,none⟩=some (.iface 209 (.agg #[.pointer (some ⟨5,145,none⟩)]))
abbrev Gl:World->Zone->Prop:=GlW 5 GD
theorem gl_err {w:World}{B:Zone}(h:Gl w B):w.cell? ⟨0,0,none⟩=some (.iface 209<|.agg #[.pointer (some ⟨5,145,none⟩)]):=h.cell (λ_ h=>h.2) (by decide)
theorem gl_tab {w:World}{B:Zone}(h:Gl w B):Lib.TabIs Tryz.prog w "internal/strconv.uint64pow10" .u64 Lib.pow10Tab:=h.tab (λ_ h=>h.1) (by kernel_rfl:Tryz.prog.globalNamed "internal/strconv.uint64pow10" = some 1) (by decide)
def q_0 (w0:World)(B:Zone)(r:Str)(v:Value)(w':World):Prop:=Below w0.heap.size w0 w'/\(λG=>(Str.v G)=v/\G.b.length<=LEN) r
theorem q_1 {B:Zone}{x1:Int}{res:Str}{w0:World}(hm:f_W x1=some res)(H:B<=w0.heap.size)(hG:Gl w0 B)(G:inI x1):j_ Tryz.prog 112 [vI x1] w0 (q_0 w0 B res):=by
  obtain rfl:=som hm;exact (r_E<|Tryz.strconv_Itoa x1 (by unfold inI at G;omega) (by unfold inI at G;omega) w0<|gl_tab hG).mono λv w' h=>⟨h.2,h.1,Nat.le_trans (Lib.itoa_length_le x1 (by unfold inI at G;omega) (by unfold inI at G;omega))<|Nat.le_of_ble_eq_true rfl⟩
def q_2 (w0:World)(B:Zone)(r:Str)(v:Value)(w':World):Prop:=Below w0.heap.size w0 w'/\(λG=>(Str.v G)=v/\G.b.length<=LEN) r
theorem q_3 {B:Zone}{x1:List Str}{x2:Str}{res:Str}{A0:Option Addr}{N0 C0:Nat}{w0:World}(hm:j_K x1 x2=some res)(H:B<=w0.heap.size)(G:repS w0 B (.slice A0 N0 C0) x1)(I:x2.b.length<=LEN):j_ Tryz.prog 172 [.slice A0 N0 C0,Str.v x2] w0 (q_2 w0 B res):=by
  obtain ⟨rfl,hc,hN,h⟩:=r_K G;unfold j_K at hm
  split at hm
  . rename_i hle
    obtain rfl:=som hm
    rcases h with rfl | ⟨b,o,rfl,hb,hcells⟩
    . exact ⟨(Tryz.strings_Join_none A0 C0 ⟨x2.b.toArray⟩ w0).mono λe w' ⟨he,hw⟩=>⟨_,he,hw ▸ f_O w0,rfl,hle⟩⟩
    . have hj:=Tryz.strings_Join b o C0 (x1.map (λs=>(⟨s.b.toArray⟩:ByteArray))) ⟨x2.b.toArray⟩ w0 hcells (zt' H (Nat.le_refl _) b hb) (by rw [List.length_map];exact hN) (by rw [List.length_map];exact hc) (by
        have:=congrArg (λz:ByteArray=>z.data.size)<|n_p x1 x2
        simp only [List.size_toArray] at this
        rw [this];exact hle)
      rw [n_p,List.length_map] at hj
      exact r_L hj λw' hw=>⟨hw,rfl,hle⟩
  . cases hm
section
open Go.Extern.Stop Go.Stop Go.Extern
/-! ### errors.As at one target type (after the kit's worked example) -/
theorem as_nil (t:Value)(w:World):Calls Tryz.prog 109 #[.nilIface,t] w λe w'=>e = .returned (.bool false)/\w'=w:=by
  go_enter Tryz.func109,Tryz.ntmps109
  go_wp2
  go_ret
  exact ⟨rfl,rfl⟩
theorem q_4 (t:Addr)(w:World):(ReflectliteValue.unpack<|.iface 150<|.pointer<|some t).run Tryz.prog w
    = .ok (.agg #[.pointer (some ⟨5,150,none⟩),.pointer<|some ⟨w.heap.size,0,none⟩,.int .u64 150]) (w.alloc<|.cells #[.pointer (some t)] 150):=by kernel_rfl
theorem q_5 (a:Addr)(w:World):(ReflectliteValue.methodAny (ReflectliteValue.valueError "reflectlite.Value.Type" 0) (λt _ _ _=>ReflectliteType.toType t) #[.agg #[.pointer (some ⟨5,150,none⟩),.pointer (some a),.int .u64 150]]).run Tryz.prog w
    = .ok (.iface 209<|.agg #[.pointer (some ⟨5,150,none⟩)]) w:=by kernel_rfl
theorem q_6 (h:Value)(w:World):(Go.method 382 209 (.agg #[h]) "Kind").run Tryz.prog w = .ok (222,h) w:=by kernel_rfl
theorem q_7 (w:World):((ReflectliteType.abiMethod λt=>Functor.map (λa:Nat=>Value.int IntKind.u8 (a:Int))<|Rtype.kind t) #[.pointer (some ⟨5,150,none⟩)]).run Tryz.prog w = .ok (.int .u8 22) w:=by kernel_rfl
theorem q_8 (w:World):((ReflectliteType.abiMethod λt=>Functor.map (λa:Nat=>Value.int IntKind.u8 (a:Int))<|Rtype.kind t) #[.pointer (some ⟨5,148,none⟩)]).run Tryz.prog w = .ok (.int .u8 22) w:=by kernel_rfl
theorem m_U (z:Sem Value)(f:TypeId->Addr->Nat->Nat->Sem Value)(v:Value) :
    ReflectliteValue.method z f #[v]=(do match ← ReflectliteValue.parts v with | none=>z | some (t,a,fl)=>f t a fl<|fl % 32):=rfl
theorem m_V (a:Addr)(w:World):(ReflectliteValue.parts<|.agg #[.pointer (some ⟨5,150,none⟩),.pointer<|some a,.int .u64 150]).run Tryz.prog w = .ok (some (150,a,150)) w:=by kernel_rfl
theorem q_9 (a p:Addr)(W:World)(ha:W.cell? a=some (.pointer<|some p)) :
    (ReflectliteValue.method (ReflectliteValue.valueError "reflectlite.Value.IsNil" 0) ReflectliteValue.isNil #[.agg #[.pointer (some ⟨5,150,none⟩),.pointer (some a),.int .u64 150]]).run Tryz.prog W = .ok (.bool false) W:=by
  rw [m_U]
  simp only [Sem.run_bind,m_V,Result.andThen]
  simp [ReflectliteValue.isNil,loadVar,isAgg,underlying,Tryz.underlying150,ha,Result.andThen]
theorem q_a (h:Value)(w:World):(Go.method 382 209 (.agg #[h]) "Elem").run Tryz.prog w = .ok (232,.agg #[h]) w:=by kernel_rfl
theorem q_b (h:Value)(w:World):(Go.method 382 209 (.agg #[h]) "Implements").run Tryz.prog w = .ok (233,.agg #[h]) w:=by kernel_rfl
theorem q_c (h:Value)(w:World):(Go.method 382 209 (.agg #[h]) "AssignableTo").run Tryz.prog w = .ok (230,.agg #[h]) w:=by kernel_rfl
theorem q_d (w:World):(ReflectliteType.method ReflectliteType.elem #[.agg #[.pointer (some ⟨5,150,none⟩)]]).run Tryz.prog w = .ok (.iface 209<|.agg #[.pointer (some ⟨5,148,none⟩)]) w:=by kernel_rfl
theorem q_e (w:World):(ReflectliteType.relation "Implements" ReflectliteType.implements_ #[.agg #[.pointer (some ⟨5,148,none⟩)],.iface 209 (.agg #[.pointer (some ⟨5,145,none⟩)])]).run Tryz.prog w = .ok (.bool true) w:=by kernel_rfl
theorem q_f (v:Value)(w:World):(ReflectliteType.typeOf #[.iface 148 v]).run Tryz.prog w = .ok (.iface 209<|.agg #[.pointer (some ⟨5,148,none⟩)]) w:=by kernel_rfl
theorem q_g (w:World):(ReflectliteType.relation "AssignableTo" ReflectliteType.assignableTo #[.agg #[.pointer (some ⟨5,148,none⟩)],.iface 209 (.agg #[.pointer (some ⟨5,148,none⟩)])]).run Tryz.prog w = .ok (.bool true) w:=by kernel_rfl
theorem q_h (e:Addr)(w:World):(ReflectliteValue.unpack<|.iface 148<|.pointer<|some e).run Tryz.prog w
    = .ok (.agg #[.pointer (some ⟨5,148,none⟩),.pointer<|some ⟨w.heap.size,0,none⟩,.int .u64 150]) (w.alloc<|.cells #[.pointer (some e)] 148):=by kernel_rfl
theorem q_i (w:World):(Rtype.elem? 150).run Tryz.prog w = .ok (some 148) w:=by kernel_rfl
theorem q_j (p:Addr)(w:World):(ReflectliteValue.mk 148 p ReflectliteValue.flagAddr).run Tryz.prog w = .ok (.agg #[.pointer (some ⟨5,148,none⟩),.pointer<|some p,.int .u64 406]) w:=by kernel_rfl
theorem q_k (a p:Addr)(W:World)(ha:W.cell? a=some (.pointer<|some p)) :
    (ReflectliteValue.method (ReflectliteValue.valueError "reflectlite.Value.Elem" 0) ReflectliteValue.elem #[.agg #[.pointer (some ⟨5,150,none⟩),.pointer (some a),.int .u64 150]]).run Tryz.prog W
      = .ok (.agg #[.pointer (some ⟨5,148,none⟩),.pointer<|some p,.int .u64 406]) W:=by
  rw [m_U]
  simp only [Sem.run_bind,m_V,Result.andThen]
  simp [ReflectliteValue.elem,loadVar,isAgg,underlying,Tryz.underlying150,ha,Result.andThen,q_i,q_j]
theorem as_rls (v x:Value):ReflectliteValue.set #[v,x]=(do
    let (some (dst,a,fl),some (src,b,_)):=(← ReflectliteValue.parts v,← ReflectliteValue.parts x)
      | unsupported (.noEntry "extern/(internal/reflectlite.Value).Set.zeroValue")
    if fl / ReflectliteValue.flagAddr % 2==0 then unsupported (.noEntry "extern/(internal/reflectlite.Value).Set.unaddressable")
    let val ← loadVar src b
    if ← Rtype.directlyAssignable dst src then storeVar dst a val
    else if ← Rtype.implements dst src then
      if (← Rtype.kind src)==20 then
        match val with
        | .nilIface=>unsupported (.noEntry "extern/reflectlite: a nil value of one interface type handed on as a value of another")
        | _=>storeVar dst a val
      else storeVar dst a (.iface src val)
    else panicString ("reflectlite.Set: value of type " ++ (← Rtype.spelt src) ++ " is not assignable to type " ++ (← Rtype.spelt dst))
    pure (.tuple #[])):=rfl
theorem q_l (a:Addr)(w:World):(ReflectliteValue.parts<|.agg #[.pointer (some ⟨5,148,none⟩),.pointer<|some a,.int .u64 406]).run Tryz.prog w = .ok (some (148,a,406)) w:=by kernel_rfl
theorem q_m (a:Addr)(w:World):(ReflectliteValue.parts<|.agg #[.pointer (some ⟨5,148,none⟩),.pointer<|some a,.int .u64 150]).run Tryz.prog w = .ok (some (148,a,150)) w:=by kernel_rfl
theorem q_n (w:World):(Rtype.directlyAssignable 148 148).run Tryz.prog w = .ok true w:=by kernel_rfl
theorem as_size25 (w:World):(sizeOf 148).run Tryz.prog w = .ok 1 w:=by kernel_rfl
theorem q_o (ta b e:Addr)(old:Value)(W:World)(hb:W.cell? b=some (.pointer<|some e))(ht:W.cell? ta=some old)(hf:W.frozen? ta=false) :
    (ReflectliteValue.set #[.agg #[.pointer (some ⟨5,148,none⟩),.pointer<|some ta,.int .u64 406],.agg #[.pointer (some ⟨5,148,none⟩),.pointer<|some b,.int .u64 150]]).run Tryz.prog W
      = .ok (.tuple #[]) (W.setCell ta<|.pointer<|some e):=by
  rw [as_rls]
  simp only [Sem.run_bind,q_l,q_m,Result.andThen]
  simp [ReflectliteValue.flagAddr,loadVar,isAgg,underlying,Tryz.underlying148,hb,Result.andThen,q_n,storeVar,Value.cells,storeCells,Addr.add]
  rw [run_store Tryz.prog W ta _ _ (by rfl)]
  simp [ht,hf]
set_option maxHeartbeats 4000000 in
theorem as_hit (e t:Addr)(old:Value)(w:World)(hg:w.cell? ⟨0,0,none⟩=some (.iface 209<|.agg #[.pointer (some ⟨5,145,none⟩)]))(G:w.cell? t=some old)(H:w.frozen? t=false) :
    Calls Tryz.prog 109 #[.iface 148 (.pointer<|some e),.iface 150<|.pointer<|some t] w λev w'=>ev = .returned (.bool true)/\w'=((((w.alloc<|.cells #[.pointer (some t)] 150).alloc (.cells #[.pointer (some ⟨5,150,none⟩),.pointer<|some ⟨w.heap.size,0,none⟩,.int .u64 150] 174)).alloc (.cells #[.pointer (some ⟨5,150,none⟩),.pointer<|some ⟨w.heap.size,0,none⟩,.int .u64 150] 174)).alloc (.cells #[.pointer (some e)] 148)).setCell t (.pointer<|some e):=by
  have h6:=@run_callFunc_extern Tryz.prog 132 _ (λargs=>ReflectliteValue.unpack (args.getD 0 (.tuple #[]))) Tryz.func132 (by kernel_rfl) (by kernel_rfl) (by kernel_rfl) (by kernel_rfl);have h7:=@run_callFunc_extern Tryz.prog 133 _ (ReflectliteValue.methodAny (ReflectliteValue.valueError "reflectlite.Value.Type" 0) (λt _ _ _=>ReflectliteType.toType t)) Tryz.func133 (by kernel_rfl) (by kernel_rfl) (by kernel_rfl) (by kernel_rfl)
  have h8:=@run_callFunc_extern Tryz.prog 134 _ (ReflectliteValue.method (ReflectliteValue.valueError "reflectlite.Value.IsNil" 0) ReflectliteValue.isNil) Tryz.func134 (by kernel_rfl) (by kernel_rfl) (by kernel_rfl) (by kernel_rfl)
  have I:=@run_callFunc_extern Tryz.prog 222 _ (ReflectliteType.abiMethod λt=>do pure (.int .u8 (← Rtype.kind t))) Tryz.func222 (by kernel_rfl) (by kernel_rfl) (by kernel_rfl) (by kernel_rfl);have J:=@run_callFunc_extern Tryz.prog 232 _ (ReflectliteType.method ReflectliteType.elem) Tryz.func232 (by kernel_rfl) (by kernel_rfl) (by kernel_rfl) (by kernel_rfl);have L:=@run_callFunc_extern Tryz.prog 233 _ (ReflectliteType.relation "Implements" ReflectliteType.implements_) Tryz.func233 (by kernel_rfl) (by kernel_rfl) (by kernel_rfl) (by kernel_rfl)
  have O:=@run_callFunc_extern Tryz.prog 162 _ ReflectliteType.typeOf Tryz.func162 (by kernel_rfl) (by kernel_rfl) (by kernel_rfl) (by kernel_rfl);have V:=@run_callFunc_extern Tryz.prog 230 _ (ReflectliteType.relation "AssignableTo" ReflectliteType.assignableTo) Tryz.func230 (by kernel_rfl) (by kernel_rfl) (by kernel_rfl) (by kernel_rfl)
  have W:=@run_callFunc_extern Tryz.prog 163 _ (ReflectliteValue.method (ReflectliteValue.valueError "reflectlite.Value.Elem" 0) ReflectliteValue.elem) Tryz.func163 (by kernel_rfl) (by kernel_rfl) (by kernel_rfl) (by kernel_rfl)
  have Y:=@run_callFunc_extern Tryz.prog 164 _ ReflectliteValue.set Tryz.func164 (by kernel_rfl) (by kernel_rfl) (by kernel_rfl) (by kernel_rfl);have tO:=q_f;have mA:=q_c;have a0:=q_g;have a1:=q_h;have f6:=q_4;have f7:=q_5;have mK:=q_6;have mE:=q_a;have mI:=q_b;have a2:=q_7;have a3:=q_8;have a4:=q_d;have a5:=q_e;have n8:=q_9 ⟨w.heap.size,0,none⟩ t ((w.alloc<|.cells #[.pointer (some t)] 150).alloc (.cells #[.pointer (some ⟨5,150,none⟩),.pointer<|some ⟨w.heap.size,0,none⟩,.int .u64 150] 174)) (by simp);have hlt:0<w.heap.size:=World.block_lt_of_cell? w _ hg
  have a6:((w.alloc<|.cells #[.pointer (some t)] 150).alloc (.cells #[.pointer (some ⟨5,150,none⟩),.pointer<|some ⟨w.heap.size,0,none⟩,.int .u64 150] 174)).cell? ⟨0,0,none⟩=some (.iface 209<|.agg #[.pointer (some ⟨5,145,none⟩)]):=by
    rw [World.cell?_alloc_lt _ _ ⟨0,0,none⟩ (by simp <;> omega),World.cell?_alloc_lt _ _ ⟨0,0,none⟩ hlt];exact hg
  have htl:t.block<w.heap.size:=by
    rcases Nat.lt_or_ge t.block w.heap.size with h | h
    . exact h
    . simp [World.cell?,Array.getElem?_eq_none h] at G
  have el:=q_k ⟨w.heap.size,0,none⟩ t (((w.alloc<|.cells #[.pointer (some t)] 150).alloc (.cells #[.pointer (some ⟨5,150,none⟩),.pointer<|some ⟨w.heap.size,0,none⟩,.int .u64 150] 174)).alloc (.cells #[.pointer (some ⟨5,150,none⟩),.pointer<|some ⟨w.heap.size,0,none⟩,.int .u64 150] 174)) (by rw [World.cell?_alloc_lt _ _ ⟨w.heap.size,0,none⟩ (by simp;omega)];simp)
  have st:=q_o t ⟨w.heap.size+1+1+1,0,none⟩ e old ((((w.alloc<|.cells #[.pointer (some t)] 150).alloc (.cells #[.pointer (some ⟨5,150,none⟩),.pointer<|some ⟨w.heap.size,0,none⟩,.int .u64 150] 174)).alloc (.cells #[.pointer (some ⟨5,150,none⟩),.pointer<|some ⟨w.heap.size,0,none⟩,.int .u64 150] 174)).alloc (.cells #[.pointer (some e)] 148))
    (by rw [World.cell?_alloc_at _ _ _ _ (by simp)];rfl)
    (by rw [World.cell?_alloc_lt _ _ t (by simp;omega),World.cell?_alloc_lt _ _ t (by simp;omega),World.cell?_alloc_lt _ _ t (by simp;omega),World.cell?_alloc_lt _ _ t htl];exact G)
    (by rw [World.frozen?_alloc_old _ _ t (by simp;omega),World.frozen?_alloc_old _ _ t (by simp;omega),World.frozen?_alloc_old _ _ t (by simp;omega),World.frozen?_alloc_old _ _ t<|Nat.ne_of_lt htl];exact H)
  go_enter Tryz.func109,Tryz.ntmps109
  go_wp2
  refine wp_loop_rounds 1 ?_
  rw [rounds_succ]
  go_wp2
  go_ret
  exact ⟨rfl,rfl⟩
theorem q_p {S:List Nat}{v t:Value}{w:World}{o:Option (Int×Int)}(h:a_R 148 w S v o)(ho:o.isSome=false):j_ Tryz.prog 109 [v,t] w (λr w'=>vB false=r/\Below w.heap.size w w'):=by
  cases o with
  | some _=>cases ho
  | none =>
  obtain ⟨rfl,_⟩:=h;exact ⟨(as_nil t w).mono λe w' ⟨he,hw⟩=>⟨_,he,rfl,hw ▸ Below.refl _ _⟩⟩
theorem q_q {S:List Nat}{v:Value}{w:World}{B:Zone}{g:Nat}{o:Option (Int×Int)}{p c:Int}(hG:Gl w B)(h:a_R 148 w S v o)(ho:o=some (p,c))(hb:Blk w g [.pointer none]) :
    j_ Tryz.prog 109 [v,.iface 150<|.pointer<|some ⟨g,0,none⟩] w (λr w'=>∃ge,vB true=r/\Chg (· = g) w w'/\Blk w' g [.pointer (some ⟨ge,0,none⟩)]/\Blk w ge [vI p,vI c]/\ge∈S/\inI p/\inI c):=by
  subst ho;obtain ⟨b,rfl,rfl,hbk,hp,hc⟩:=h;refine ⟨(as_hit ⟨b,0,none⟩ ⟨g,0,none⟩ (.pointer none) w (gl_err hG) (hb.at rfl)<|hb.free (i:=0) Nat.zero_lt_one).mono λe w' ⟨he,hw⟩=>⟨_,he,b,rfl,?_,?_,hbk,List.mem_singleton.2 rfl,hp,hc⟩⟩
  . subst hw;exact as_chg hb
  . subst hw;exact as_blk hb
end
end Go.Vw
