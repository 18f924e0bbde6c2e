/- The package-level variables, and the library's functions that are called. -/
import Derived.Test.YtefljifhihogoaaGreatDoorV0
import Derived.WalkKit
import Derived.LaidEql
import Derived.Stop.Asserts
import Derived.RowKitTokens
import Derived.Test.YtefljifhihogoaaGreatDoorShelf
set_option linter.unusedVariables false
namespace Go.Vw
open Go.RowKit Dat Go.Proofs
/-- What the variables hold. -/
def GD (w:World):Prop:=Lib.TabIs Tryz.prog w "internal/strconv.uint64pow10" .u64 Lib.pow10Tab/\w.cell? ⟨0,0,none⟩=some (.iface 229 (.agg #[.pointer (some ⟨5,121,none⟩)]))
abbrev Gl:World->Zone->Prop:=GlW 5 GD
theorem gl_err {w:World}{B:Zone}(h:Gl w B):w.cell? ⟨0,0,none⟩=some (.iface 229<|.agg #[.pointer (some ⟨5,121,none⟩)]):=h.cell (λ_ h=>h.2) (by decide)
theorem gl_tab {w:World}{B:Zone}(h:Gl w B):Lib.TabIs Tryz.prog w "internal/strconv.uint64pow10" .u64 Lib.pow10Tab:=h.tab (λ_ h=>h.1) (by kernel_rfl:Tryz.prog.globalNamed "internal/strconv.uint64pow10" = some 1) (by decide)
def y_z (w0:World)(B:Zone)(r:Str)(v:Value)(w':World):Prop:=Below w0.heap.size w0 w'/\(λr1=>(Str.v r1)=v/\r1.b.length<=LEN) r
theorem y_A {B:Zone}{x1:Int}{res:Str}{w0:World}(hm:l_p x1=some res)(H:B<=w0.heap.size)(hG:Gl w0 B)(G:inI x1):g_ Tryz.prog 180 [vI x1] w0 (y_z w0 B res):=by
  obtain rfl:=som hm;exact (u_T<|Tryz.strconv_Itoa x1 (by unfold inI at G;omega) (by unfold inI at G;omega) w0<|gl_tab hG).mono λv w' h=>⟨h.2,h.1,QAG (Lib.itoa_length_le x1 (by unfold inI at G;omega) (by unfold inI at G;omega))<|QAA rfl⟩
def y_B (w0:World)(B:Zone)(r:Str)(v:Value)(w':World):Prop:=Below w0.heap.size w0 w'/\(λr1=>(Str.v r1)=v/\r1.b.length<=LEN) r
theorem y_C {B:Zone}{x1:List Str}{x2:Str}{res:Str}{A0:Option Addr}{N0 C0:Nat}{w0:World}(hm:l_q x1 x2=some res)(H:B<=w0.heap.size)(G:repS w0 B (.slice A0 N0 C0) x1)(I:x2.b.length<=LEN):g_ Tryz.prog 181 [.slice A0 N0 C0,Str.v x2] w0 (y_B w0 B res):=by
  obtain ⟨rfl,hc,hN,h⟩:=u_Y G;unfold l_q at hm
  split at hm
  . rename_i hle
    obtain rfl:=som hm
    rcases h with rfl | ⟨b,o,rfl,hb,hcells⟩
    . exact ⟨(Tryz.strings_Join_none A0 C0 ⟨x2.b.toArray⟩ w0).mono λe w' ⟨he,hw⟩=>⟨_,he,hw ▸ f_0 w0,rfl,hle⟩⟩
    . have hj:=Tryz.strings_Join b o C0 (x1.map (λs=>(⟨s.b.toArray⟩:ByteArray))) ⟨x2.b.toArray⟩ w0 hcells (zt' H (QAB _) b hb) (by rw [QAs];exact hN) (by rw [QAs];exact hc) (by
        have:=congrArg (λz:ByteArray=>z.data.size)<|p_U x1 x2
        simp only [List.size_toArray] at this
        rw [this];exact hle)
      rw [p_U,QAs] at hj
      exact u_Z hj λw' hw=>⟨hw,rfl,hle⟩
  . cases hm
section
open Go.Extern.Stop Go.Stop Go.Extern
/-! ### errors.As at one target type (after the kit's worked example) -/
theorem as_nil (t:Value)(w:World):Calls Tryz.prog 74 #[.nilIface,t] w λe w'=>e = .returned (.bool false)/\w'=w:=by
  go_enter Tryz.func74,Tryz.ntmps74
  go_wp2
  go_ret
  exact ⟨rfl,rfl⟩
theorem y_D (t:Addr)(w:World):(ReflectliteValue.unpack<|.iface 126<|.pointer<|some t).run Tryz.prog w
    = .ok (.agg #[.pointer (some ⟨5,126,none⟩),.pointer<|some ⟨w.heap.size,0,none⟩,.int .u64 150]) (w.alloc<|.cells #[.pointer (some t)] 126):=by kernel_rfl
theorem y_E (a:Addr)(w:World):(ReflectliteValue.methodAny (ReflectliteValue.valueError "reflectlite.Value.Type" 0) (λt _ _ _=>ReflectliteType.toType t) #[.agg #[.pointer (some ⟨5,126,none⟩),.pointer (some a),.int .u64 150]]).run Tryz.prog w
    = .ok (.iface 229<|.agg #[.pointer (some ⟨5,126,none⟩)]) w:=by kernel_rfl
theorem y_F (h:Value)(w:World):(Go.method 424 229 (.agg #[h]) "Kind").run Tryz.prog w = .ok (258,h) w:=by kernel_rfl
theorem y_G (w:World):((ReflectliteType.abiMethod λt=>Functor.map (λa:Nat=>Value.int IntKind.u8 (a:Int))<|Rtype.kind t) #[.pointer (some ⟨5,126,none⟩)]).run Tryz.prog w = .ok (.int .u8 22) w:=by kernel_rfl
theorem y_H (w:World):((ReflectliteType.abiMethod λt=>Functor.map (λa:Nat=>Value.int IntKind.u8 (a:Int))<|Rtype.kind t) #[.pointer (some ⟨5,124,none⟩)]).run Tryz.prog w = .ok (.int .u8 22) w:=by kernel_rfl
theorem t_i (z:Sem Value)(f:TypeId->Addr->Nat->Nat->Sem Value)(v:Value) :
    ReflectliteValue.method z f #[v]=(do match ← ReflectliteValue.parts v with | none=>z | some (t,a,fl)=>f t a fl<|fl % 32):=rfl
theorem t_j (a:Addr)(w:World):(ReflectliteValue.parts<|.agg #[.pointer (some ⟨5,126,none⟩),.pointer<|some a,.int .u64 150]).run Tryz.prog w = .ok (some (126,a,150)) w:=by kernel_rfl
theorem y_I (a p:Addr)(W:World)(ha:W.cell? a=some (.pointer<|some p)) :
    (ReflectliteValue.method (ReflectliteValue.valueError "reflectlite.Value.IsNil" 0) ReflectliteValue.isNil #[.agg #[.pointer (some ⟨5,126,none⟩),.pointer (some a),.int .u64 150]]).run Tryz.prog W = .ok (.bool false) W:=by
  rw [t_i]
  simp only [Sem.run_bind,t_j,Result.andThen]
  simp [ReflectliteValue.isNil,loadVar,isAgg,underlying,Tryz.underlying126,ha,Result.andThen]
theorem y_J (h:Value)(w:World):(Go.method 424 229 (.agg #[h]) "Elem").run Tryz.prog w = .ok (269,.agg #[h]) w:=by kernel_rfl
theorem y_K (h:Value)(w:World):(Go.method 424 229 (.agg #[h]) "Implements").run Tryz.prog w = .ok (270,.agg #[h]) w:=by kernel_rfl
theorem y_L (h:Value)(w:World):(Go.method 424 229 (.agg #[h]) "AssignableTo").run Tryz.prog w = .ok (267,.agg #[h]) w:=by kernel_rfl
theorem y_M (w:World):(ReflectliteType.method ReflectliteType.elem #[.agg #[.pointer (some ⟨5,126,none⟩)]]).run Tryz.prog w = .ok (.iface 229<|.agg #[.pointer (some ⟨5,124,none⟩)]) w:=by kernel_rfl
theorem y_N (w:World):(ReflectliteType.relation "Implements" ReflectliteType.implements_ #[.agg #[.pointer (some ⟨5,124,none⟩)],.iface 229 (.agg #[.pointer (some ⟨5,121,none⟩)])]).run Tryz.prog w = .ok (.bool true) w:=by kernel_rfl
theorem y_O (v:Value)(w:World):(ReflectliteType.typeOf #[.iface 124 v]).run Tryz.prog w = .ok (.iface 229<|.agg #[.pointer (some ⟨5,124,none⟩)]) w:=by kernel_rfl
theorem y_P (w:World):(ReflectliteType.relation "AssignableTo" ReflectliteType.assignableTo #[.agg #[.pointer (some ⟨5,124,none⟩)],.iface 229 (.agg #[.pointer (some ⟨5,124,none⟩)])]).run Tryz.prog w = .ok (.bool true) w:=by kernel_rfl
theorem y_Q (e:Addr)(w:World):(ReflectliteValue.unpack<|.iface 124<|.pointer<|some e).run Tryz.prog w
    = .ok (.agg #[.pointer (some ⟨5,124,none⟩),.pointer<|some ⟨w.heap.size,0,none⟩,.int .u64 150]) (w.alloc<|.cells #[.pointer (some e)] 124):=by kernel_rfl
theorem y_R (w:World):(Rtype.elem? 126).run Tryz.prog w = .ok (some 124) w:=by kernel_rfl
theorem y_S (p:Addr)(w:World):(ReflectliteValue.mk 124 p ReflectliteValue.flagAddr).run Tryz.prog w = .ok (.agg #[.pointer (some ⟨5,124,none⟩),.pointer<|some p,.int .u64 406]) w:=by kernel_rfl
theorem y_T (a p:Addr)(W:World)(ha:W.cell? a=some (.pointer<|some p)) :
    (ReflectliteValue.method (ReflectliteValue.valueError "reflectlite.Value.Elem" 0) ReflectliteValue.elem #[.agg #[.pointer (some ⟨5,126,none⟩),.pointer (some a),.int .u64 150]]).run Tryz.prog W
      = .ok (.agg #[.pointer (some ⟨5,124,none⟩),.pointer<|some p,.int .u64 406]) W:=by
  rw [t_i]
  simp only [Sem.run_bind,t_j,Result.andThen]
  simp [ReflectliteValue.elem,loadVar,isAgg,underlying,Tryz.underlying126,ha,Result.andThen,y_R,y_S]
theorem as_rls (v x:Value):ReflectliteValue.set #[v,x]=(do
    let (some (dst,a,fl),some (src,b,_)):=(← ReflectliteValue.parts v,← ReflectliteValue.parts x)
      | unsupported (.noEntry "extern/(internal/reflectlite.Value).Set.zeroValue")
    if fl / ReflectliteValue.flagAddr % 2==0 then unsupported (.noEntry "extern/(internal/reflectlite.Value).Set.unaddressable")
    let val ← loadVar src b
    if ← Rtype.directlyAssignable dst src then storeVar dst a val
    else if ← Rtype.implements dst src then
      if (← Rtype.kind src)==20 then
        match val with
        | .nilIface=>unsupported (.noEntry "extern/reflectlite: a nil value of one interface type handed on as a value of another")
        | _=>storeVar dst a val
      else storeVar dst a (.iface src val)
    else panicString ("reflectlite.Set: value of type " ++ (← Rtype.spelt src) ++ " is not assignable to type " ++ (← Rtype.spelt dst))
    pure (.tuple #[])):=rfl
theorem y_U (a:Addr)(w:World):(ReflectliteValue.parts<|.agg #[.pointer (some ⟨5,124,none⟩),.pointer<|some a,.int .u64 406]).run Tryz.prog w = .ok (some (124,a,406)) w:=by kernel_rfl
theorem y_V (a:Addr)(w:World):(ReflectliteValue.parts<|.agg #[.pointer (some ⟨5,124,none⟩),.pointer<|some a,.int .u64 150]).run Tryz.prog w = .ok (some (124,a,150)) w:=by kernel_rfl
theorem y_W (w:World):(Rtype.directlyAssignable 124 124).run Tryz.prog w = .ok true w:=by kernel_rfl
theorem as_size25 (w:World):(sizeOf 124).run Tryz.prog w = .ok 1 w:=by kernel_rfl
theorem y_X (ta b e:Addr)(old:Value)(W:World)(hb:W.cell? b=some (.pointer<|some e))(ht:W.cell? ta=some old)(hf:W.frozen? ta=false) :
    (ReflectliteValue.set #[.agg #[.pointer (some ⟨5,124,none⟩),.pointer<|some ta,.int .u64 406],.agg #[.pointer (some ⟨5,124,none⟩),.pointer<|some b,.int .u64 150]]).run Tryz.prog W
      = .ok (.tuple #[]) (W.setCell ta<|.pointer<|some e):=by
  rw [as_rls]
  simp only [Sem.run_bind,y_U,y_V,Result.andThen]
  simp [ReflectliteValue.flagAddr,loadVar,isAgg,underlying,Tryz.underlying124,hb,Result.andThen,y_W,storeVar,Value.cells,storeCells,Addr.add]
  rw [run_store Tryz.prog W ta _ _ (by rfl)]
  simp [ht,hf]
set_option maxHeartbeats 4000000 in
theorem as_hit (e t:Addr)(old:Value)(w:World)(hg:w.cell? ⟨0,0,none⟩=some (.iface 229<|.agg #[.pointer (some ⟨5,121,none⟩)]))(G:w.cell? t=some old)(H:w.frozen? t=false) :
    Calls Tryz.prog 74 #[.iface 124 (.pointer<|some e),.iface 126<|.pointer<|some t] w λev w'=>ev = .returned (.bool true)/\w'=((((w.alloc<|.cells #[.pointer (some t)] 126).alloc (.cells #[.pointer (some ⟨5,126,none⟩),.pointer<|some ⟨w.heap.size,0,none⟩,.int .u64 150] 171)).alloc (.cells #[.pointer (some ⟨5,126,none⟩),.pointer<|some ⟨w.heap.size,0,none⟩,.int .u64 150] 171)).alloc (.cells #[.pointer (some e)] 124)).setCell t (.pointer<|some e):=by
  have h6:=@run_callFunc_extern Tryz.prog 119 _ (λargs=>ReflectliteValue.unpack (args.getD 0 (.tuple #[]))) Tryz.func119 (by kernel_rfl) (by kernel_rfl) (by kernel_rfl) (by kernel_rfl);have h7:=@run_callFunc_extern Tryz.prog 120 _ (ReflectliteValue.methodAny (ReflectliteValue.valueError "reflectlite.Value.Type" 0) (λt _ _ _=>ReflectliteType.toType t)) Tryz.func120 (by kernel_rfl) (by kernel_rfl) (by kernel_rfl) (by kernel_rfl)
  have h8:=@run_callFunc_extern Tryz.prog 121 _ (ReflectliteValue.method (ReflectliteValue.valueError "reflectlite.Value.IsNil" 0) ReflectliteValue.isNil) Tryz.func121 (by kernel_rfl) (by kernel_rfl) (by kernel_rfl) (by kernel_rfl)
  have I:=@run_callFunc_extern Tryz.prog 258 _ (ReflectliteType.abiMethod λt=>do pure (.int .u8 (← Rtype.kind t))) Tryz.func258 (by kernel_rfl) (by kernel_rfl) (by kernel_rfl) (by kernel_rfl);have J:=@run_callFunc_extern Tryz.prog 269 _ (ReflectliteType.method ReflectliteType.elem) Tryz.func269 (by kernel_rfl) (by kernel_rfl) (by kernel_rfl) (by kernel_rfl);have L:=@run_callFunc_extern Tryz.prog 270 _ (ReflectliteType.relation "Implements" ReflectliteType.implements_) Tryz.func270 (by kernel_rfl) (by kernel_rfl) (by kernel_rfl) (by kernel_rfl)
  have O:=@run_callFunc_extern Tryz.prog 176 _ ReflectliteType.typeOf Tryz.func176 (by kernel_rfl) (by kernel_rfl) (by kernel_rfl) (by kernel_rfl);have V:=@run_callFunc_extern Tryz.prog 267 _ (ReflectliteType.relation "AssignableTo" ReflectliteType.assignableTo) Tryz.func267 (by kernel_rfl) (by kernel_rfl) (by kernel_rfl) (by kernel_rfl)
  have W:=@run_callFunc_extern Tryz.prog 177 _ (ReflectliteValue.method (ReflectliteValue.valueError "reflectlite.Value.Elem" 0) ReflectliteValue.elem) Tryz.func177 (by kernel_rfl) (by kernel_rfl) (by kernel_rfl) (by kernel_rfl)
  have Y:=@run_callFunc_extern Tryz.prog 178 _ ReflectliteValue.set Tryz.func178 (by kernel_rfl) (by kernel_rfl) (by kernel_rfl) (by kernel_rfl);have tO:=y_O;have mA:=y_L;have a0:=y_P;have a1:=y_Q;have f6:=y_D;have f7:=y_E;have mK:=y_F;have mE:=y_J;have mI:=y_K;have a2:=y_G;have a3:=y_H;have a4:=y_M;have a5:=y_N;have n8:=y_I ⟨w.heap.size,0,none⟩ t ((w.alloc<|.cells #[.pointer (some t)] 126).alloc (.cells #[.pointer (some ⟨5,126,none⟩),.pointer<|some ⟨w.heap.size,0,none⟩,.int .u64 150] 171)) (by simp);have hlt:0<w.heap.size:=World.block_lt_of_cell? w _ hg
  have a6:((w.alloc<|.cells #[.pointer (some t)] 126).alloc (.cells #[.pointer (some ⟨5,126,none⟩),.pointer<|some ⟨w.heap.size,0,none⟩,.int .u64 150] 171)).cell? ⟨0,0,none⟩=some (.iface 229<|.agg #[.pointer (some ⟨5,121,none⟩)]):=by
    rw [World.cell?_alloc_lt _ _ ⟨0,0,none⟩ (by simp <;> omega),World.cell?_alloc_lt _ _ ⟨0,0,none⟩ hlt];exact hg
  have htl:t.block<w.heap.size:=by
    rcases Nat.lt_or_ge t.block w.heap.size with h | h
    . exact h
    . simp [World.cell?,Array.getElem?_eq_none h] at G
  have el:=y_T ⟨w.heap.size,0,none⟩ t (((w.alloc<|.cells #[.pointer (some t)] 126).alloc (.cells #[.pointer (some ⟨5,126,none⟩),.pointer<|some ⟨w.heap.size,0,none⟩,.int .u64 150] 171)).alloc (.cells #[.pointer (some ⟨5,126,none⟩),.pointer<|some ⟨w.heap.size,0,none⟩,.int .u64 150] 171)) (by rw [World.cell?_alloc_lt _ _ ⟨w.heap.size,0,none⟩ (by simp;omega)];simp)
  have st:=y_X t ⟨w.heap.size+1+1+1,0,none⟩ e old ((((w.alloc<|.cells #[.pointer (some t)] 126).alloc (.cells #[.pointer (some ⟨5,126,none⟩),.pointer<|some ⟨w.heap.size,0,none⟩,.int .u64 150] 171)).alloc (.cells #[.pointer (some ⟨5,126,none⟩),.pointer<|some ⟨w.heap.size,0,none⟩,.int .u64 150] 171)).alloc (.cells #[.pointer (some e)] 124))
    (by rw [World.cell?_alloc_at _ _ _ _ (by simp)];rfl)
    (by rw [World.cell?_alloc_lt _ _ t (by simp;omega),World.cell?_alloc_lt _ _ t (by simp;omega),World.cell?_alloc_lt _ _ t (by simp;omega),World.cell?_alloc_lt _ _ t htl];exact G)
    (by rw [World.frozen?_alloc_old _ _ t (by simp;omega),World.frozen?_alloc_old _ _ t (by simp;omega),World.frozen?_alloc_old _ _ t (by simp;omega),World.frozen?_alloc_old _ _ t<|Nat.ne_of_lt htl];exact H)
  go_enter Tryz.func74,Tryz.ntmps74
  go_wp2
  refine wp_loop_rounds 1 ?_
  rw [rounds_succ]
  go_wp2
  go_ret
  exact ⟨rfl,rfl⟩
theorem y_Y {S:List Nat}{v t:Value}{w:World}{o:Option (Int×Int)}(h:a_F 124 w S v o)(ho:o.isSome=false):g_ Tryz.prog 74 [v,t] w (λr w'=>vB false=r/\Below w.heap.size w w'):=by
  cases o with
  | some _=>cases ho
  | none =>
  obtain ⟨rfl,_⟩:=h;exact ⟨(as_nil t w).mono λe w' ⟨he,hw⟩=>⟨_,he,rfl,hw ▸ Below.refl _ _⟩⟩
theorem y_Z {S:List Nat}{v:Value}{w:World}{B:Zone}{g:Nat}{o:Option (Int×Int)}{p c:Int}(hG:Gl w B)(h:a_F 124 w S v o)(ho:o=some (p,c))(hb:Blk w g [.pointer none]) :
    g_ Tryz.prog 74 [v,.iface 126<|.pointer<|some ⟨g,0,none⟩] w (λr w'=>∃ge,vB true=r/\Chg (· = g) w w'/\Blk w' g [.pointer (some ⟨ge,0,none⟩)]/\Blk w ge [vI p,vI c]/\ge∈S/\inI p/\inI c):=by
  subst ho;obtain ⟨b,rfl,rfl,hbk,hp,hc⟩:=h;refine ⟨(as_hit ⟨b,0,none⟩ ⟨g,0,none⟩ (.pointer none) w (gl_err hG) (hb.at rfl)<|hb.free (i:=0) Nat.zero_lt_one).mono λe w' ⟨he,hw⟩=>⟨_,he,b,rfl,?_,?_,hbk,QA_.2 rfl,hp,hc⟩⟩
  . subst hw;exact as_chg hb
  . subst hw;exact as_blk hb
end
end Go.Vw
