/- The package-level variables, and the library's functions that are called. -/
import Derived.Test.YtllmonllbkaflaaGreatDoorV0
import Derived.WalkKit
import Derived.LaidEql
import Derived.Stop.Asserts
import Derived.RowKitTokens
import Derived.Test.YtllmonllbkaflaaGreatDoorShelf
set_option linter.unusedVariables false
namespace Go.Vw
open Go.RowKit Dat Go.Proofs
/-- What the variables hold. -/
def GD (w:World):Prop:=Lib.TabIs Tryz.prog w "internal/strconv.uint64pow10" .u64 Lib.pow10Tab/\w.cell? ⟨0,0,none⟩=some (.iface 177 (.agg #[.pointer (some ⟨5,74,none⟩)]))
abbrev Gl:World->Zone->Prop:=GlW 5 GD
theorem gl_err {w:World}{B:Zone}(h:Gl w B):w.cell? ⟨0,0,none⟩=some (.iface 177<|.agg #[.pointer (some ⟨5,74,none⟩)]):=h.cell (λ_ h=>h.2) (by decide)
theorem gl_tab {w:World}{B:Zone}(h:Gl w B):Lib.TabIs Tryz.prog w "internal/strconv.uint64pow10" .u64 Lib.pow10Tab:=h.tab (λ_ h=>h.1) (by kernel_rfl:Tryz.prog.globalNamed "internal/strconv.uint64pow10" = some 1) (by decide)
def r_h (w0:World)(B:Zone)(r:Str)(v:Value)(w':World):Prop:=Below w0.heap.size w0 w'/\(λr1=>(Str.v r1)=v/\r1.b.length<=LEN) r
theorem r_i {B:Zone}{x1:Int}{res:Str}{w0:World}(hm:j_F x1=some res)(H:B<=w0.heap.size)(hG:Gl w0 B)(G:inI x1):f_ Tryz.prog 131 [vI x1] w0 (r_h w0 B res):=by
  obtain rfl:=som hm;exact (q_Y<|Tryz.strconv_Itoa x1 (by unfold inI at G;omega) (by unfold inI at G;omega) w0<|gl_tab hG).mono λv w' h=>⟨h.2,h.1,Nat.le_trans (Lib.itoa_length_le x1 (by unfold inI at G;omega) (by unfold inI at G;omega))<|Nat.le_of_ble_eq_true rfl⟩
def r_j (w0:World)(B:Zone)(r:Str)(v:Value)(w':World):Prop:=Below w0.heap.size w0 w'/\(λr1=>(Str.v r1)=v/\r1.b.length<=LEN) r
theorem r_k {B:Zone}{x1:List Str}{x2:Str}{res:Str}{A0:Option Addr}{N0 C0:Nat}{w0:World}(hm:j_G x1 x2=some res)(H:B<=w0.heap.size)(G:repS w0 B (.slice A0 N0 C0) x1)(I:x2.b.length<=LEN):f_ Tryz.prog 132 [.slice A0 N0 C0,Str.v x2] w0 (r_j w0 B res):=by
  obtain ⟨rfl,hc,hN,h⟩:=r_2 G;unfold j_G at hm
  split at hm
  . rename_i hle
    obtain rfl:=som hm
    rcases h with rfl | ⟨b,o,rfl,hb,hcells⟩
    . exact ⟨(Tryz.strings_Join_none A0 C0 ⟨x2.b.toArray⟩ w0).mono λe w' ⟨he,hw⟩=>⟨_,he,hw ▸ e_Q w0,rfl,hle⟩⟩
    . have hj:=Tryz.strings_Join b o C0 (x1.map (λs=>(⟨s.b.toArray⟩:ByteArray))) ⟨x2.b.toArray⟩ w0 hcells (zt' H (Nat.le_refl _) b hb) (by rw [List.length_map];exact hN) (by rw [List.length_map];exact hc) (by
        have:=congrArg (λz:ByteArray=>z.data.size)<|n_o x1 x2
        simp only [List.size_toArray] at this
        rw [this];exact hle)
      rw [n_o,List.length_map] at hj
      exact r_3 hj λw' hw=>⟨hw,rfl,hle⟩
  . cases hm
section
open Go.Extern.Stop Go.Stop Go.Extern
/-! ### errors.As at one target type (after the kit's worked example) -/
theorem as_nil (t:Value)(w:World):Calls Tryz.prog 37 #[.nilIface,t] w λe w'=>e = .returned (.bool false)/\w'=w:=by
  go_enter Tryz.func37,Tryz.ntmps37
  go_wp2
  go_ret
  exact ⟨rfl,rfl⟩
theorem r_l (t:Addr)(w:World):(ReflectliteValue.unpack<|.iface 79<|.pointer<|some t).run Tryz.prog w
    = .ok (.agg #[.pointer (some ⟨5,79,none⟩),.pointer<|some ⟨w.heap.size,0,none⟩,.int .u64 150]) (w.alloc<|.cells #[.pointer (some t)] 79):=by kernel_rfl
theorem r_m (a:Addr)(w:World):(ReflectliteValue.methodAny (ReflectliteValue.valueError "reflectlite.Value.Type" 0) (λt _ _ _=>ReflectliteType.toType t) #[.agg #[.pointer (some ⟨5,79,none⟩),.pointer (some a),.int .u64 150]]).run Tryz.prog w
    = .ok (.iface 177<|.agg #[.pointer (some ⟨5,79,none⟩)]) w:=by kernel_rfl
theorem r_n (h:Value)(w:World):(Go.method 365 177 (.agg #[h]) "Kind").run Tryz.prog w = .ok (199,h) w:=by kernel_rfl
theorem r_o (w:World):((ReflectliteType.abiMethod λt=>Functor.map (λa:Nat=>Value.int IntKind.u8 (a:Int))<|Rtype.kind t) #[.pointer (some ⟨5,79,none⟩)]).run Tryz.prog w = .ok (.int .u8 22) w:=by kernel_rfl
theorem r_p (w:World):((ReflectliteType.abiMethod λt=>Functor.map (λa:Nat=>Value.int IntKind.u8 (a:Int))<|Rtype.kind t) #[.pointer (some ⟨5,77,none⟩)]).run Tryz.prog w = .ok (.int .u8 22) w:=by kernel_rfl
theorem n_v (z:Sem Value)(f:TypeId->Addr->Nat->Nat->Sem Value)(v:Value) :
    ReflectliteValue.method z f #[v]=(do match ← ReflectliteValue.parts v with | none=>z | some (t,a,fl)=>f t a fl<|fl % 32):=rfl
theorem n_w (a:Addr)(w:World):(ReflectliteValue.parts<|.agg #[.pointer (some ⟨5,79,none⟩),.pointer<|some a,.int .u64 150]).run Tryz.prog w = .ok (some (79,a,150)) w:=by kernel_rfl
theorem r_q (a p:Addr)(W:World)(ha:W.cell? a=some (.pointer<|some p)) :
    (ReflectliteValue.method (ReflectliteValue.valueError "reflectlite.Value.IsNil" 0) ReflectliteValue.isNil #[.agg #[.pointer (some ⟨5,79,none⟩),.pointer (some a),.int .u64 150]]).run Tryz.prog W = .ok (.bool false) W:=by
  rw [n_v]
  simp only [Sem.run_bind,n_w,Result.andThen]
  simp [ReflectliteValue.isNil,loadVar,isAgg,underlying,Tryz.underlying79,ha,Result.andThen]
theorem r_r (h:Value)(w:World):(Go.method 365 177 (.agg #[h]) "Elem").run Tryz.prog w = .ok (209,.agg #[h]) w:=by kernel_rfl
theorem r_s (h:Value)(w:World):(Go.method 365 177 (.agg #[h]) "Implements").run Tryz.prog w = .ok (210,.agg #[h]) w:=by kernel_rfl
theorem r_t (h:Value)(w:World):(Go.method 365 177 (.agg #[h]) "AssignableTo").run Tryz.prog w = .ok (207,.agg #[h]) w:=by kernel_rfl
theorem r_u (w:World):(ReflectliteType.method ReflectliteType.elem #[.agg #[.pointer (some ⟨5,79,none⟩)]]).run Tryz.prog w = .ok (.iface 177<|.agg #[.pointer (some ⟨5,77,none⟩)]) w:=by kernel_rfl
theorem r_v (w:World):(ReflectliteType.relation "Implements" ReflectliteType.implements_ #[.agg #[.pointer (some ⟨5,77,none⟩)],.iface 177 (.agg #[.pointer (some ⟨5,74,none⟩)])]).run Tryz.prog w = .ok (.bool true) w:=by kernel_rfl
theorem r_w (v:Value)(w:World):(ReflectliteType.typeOf #[.iface 77 v]).run Tryz.prog w = .ok (.iface 177<|.agg #[.pointer (some ⟨5,77,none⟩)]) w:=by kernel_rfl
theorem r_x (w:World):(ReflectliteType.relation "AssignableTo" ReflectliteType.assignableTo #[.agg #[.pointer (some ⟨5,77,none⟩)],.iface 177 (.agg #[.pointer (some ⟨5,77,none⟩)])]).run Tryz.prog w = .ok (.bool true) w:=by kernel_rfl
theorem r_y (e:Addr)(w:World):(ReflectliteValue.unpack<|.iface 77<|.pointer<|some e).run Tryz.prog w
    = .ok (.agg #[.pointer (some ⟨5,77,none⟩),.pointer<|some ⟨w.heap.size,0,none⟩,.int .u64 150]) (w.alloc<|.cells #[.pointer (some e)] 77):=by kernel_rfl
theorem r_z (w:World):(Rtype.elem? 79).run Tryz.prog w = .ok (some 77) w:=by kernel_rfl
theorem r_A (p:Addr)(w:World):(ReflectliteValue.mk 77 p ReflectliteValue.flagAddr).run Tryz.prog w = .ok (.agg #[.pointer (some ⟨5,77,none⟩),.pointer<|some p,.int .u64 406]) w:=by kernel_rfl
theorem r_B (a p:Addr)(W:World)(ha:W.cell? a=some (.pointer<|some p)) :
    (ReflectliteValue.method (ReflectliteValue.valueError "reflectlite.Value.Elem" 0) ReflectliteValue.elem #[.agg #[.pointer (some ⟨5,79,none⟩),.pointer (some a),.int .u64 150]]).run Tryz.prog W
      = .ok (.agg #[.pointer (some ⟨5,77,none⟩),.pointer<|some p,.int .u64 406]) W:=by
  rw [n_v]
  simp only [Sem.run_bind,n_w,Result.andThen]
  simp [ReflectliteValue.elem,loadVar,isAgg,underlying,Tryz.underlying79,ha,Result.andThen,r_z,r_A]
theorem as_rls (v x:Value):ReflectliteValue.set #[v,x]=(do
    let (some (dst,a,fl),some (src,b,_)):=(← ReflectliteValue.parts v,← ReflectliteValue.parts x)
      | unsupported (.noEntry "extern/(internal/reflectlite.Value).Set.zeroValue")
    if fl / ReflectliteValue.flagAddr % 2==0 then unsupported (.noEntry "extern/(internal/reflectlite.Value).Set.unaddressable")
    let val ← loadVar src b
    if ← Rtype.directlyAssignable dst src then storeVar dst a val
    else if ← Rtype.implements dst src then
      if (← Rtype.kind src)==20 then
        match val with
        | .nilIface=>unsupported (.noEntry "extern/reflectlite: a nil value of one interface type handed on as a value of another")
        | _=>storeVar dst a val
      else storeVar dst a (.iface src val)
    else panicString ("reflectlite.Set: value of type " ++ (← Rtype.spelt src) ++ " is not assignable to type " ++ (← Rtype.spelt dst))
    pure (.tuple #[])):=rfl
theorem r_C (a:Addr)(w:World):(ReflectliteValue.parts<|.agg #[.pointer (some ⟨5,77,none⟩),.pointer<|some a,.int .u64 406]).run Tryz.prog w = .ok (some (77,a,406)) w:=by kernel_rfl
theorem r_D (a:Addr)(w:World):(ReflectliteValue.parts<|.agg #[.pointer (some ⟨5,77,none⟩),.pointer<|some a,.int .u64 150]).run Tryz.prog w = .ok (some (77,a,150)) w:=by kernel_rfl
theorem r_E (w:World):(Rtype.directlyAssignable 77 77).run Tryz.prog w = .ok true w:=by kernel_rfl
theorem as_size25 (w:World):(sizeOf 77).run Tryz.prog w = .ok 1 w:=by kernel_rfl
theorem r_F (ta b e:Addr)(old:Value)(W:World)(hb:W.cell? b=some (.pointer<|some e))(ht:W.cell? ta=some old)(hf:W.frozen? ta=false) :
    (ReflectliteValue.set #[.agg #[.pointer (some ⟨5,77,none⟩),.pointer<|some ta,.int .u64 406],.agg #[.pointer (some ⟨5,77,none⟩),.pointer<|some b,.int .u64 150]]).run Tryz.prog W
      = .ok (.tuple #[]) (W.setCell ta<|.pointer<|some e):=by
  rw [as_rls]
  simp only [Sem.run_bind,r_C,r_D,Result.andThen]
  simp [ReflectliteValue.flagAddr,loadVar,isAgg,underlying,Tryz.underlying77,hb,Result.andThen,r_E,storeVar,Value.cells,storeCells,Addr.add]
  rw [run_store Tryz.prog W ta _ _ (by rfl)]
  simp [ht,hf]
set_option maxHeartbeats 4000000 in
theorem as_hit (e t:Addr)(old:Value)(w:World)(hg:w.cell? ⟨0,0,none⟩=some (.iface 177<|.agg #[.pointer (some ⟨5,74,none⟩)]))(G:w.cell? t=some old)(H:w.frozen? t=false) :
    Calls Tryz.prog 37 #[.iface 77 (.pointer<|some e),.iface 79<|.pointer<|some t] w λev w'=>ev = .returned (.bool true)/\w'=((((w.alloc<|.cells #[.pointer (some t)] 79).alloc (.cells #[.pointer (some ⟨5,79,none⟩),.pointer<|some ⟨w.heap.size,0,none⟩,.int .u64 150] 125)).alloc (.cells #[.pointer (some ⟨5,79,none⟩),.pointer<|some ⟨w.heap.size,0,none⟩,.int .u64 150] 125)).alloc (.cells #[.pointer (some e)] 77)).setCell t (.pointer<|some e):=by
  have h6:=@run_callFunc_extern Tryz.prog 80 _ (λargs=>ReflectliteValue.unpack (args.getD 0 (.tuple #[]))) Tryz.func80 (by kernel_rfl) (by kernel_rfl) (by kernel_rfl) (by kernel_rfl);have h7:=@run_callFunc_extern Tryz.prog 81 _ (ReflectliteValue.methodAny (ReflectliteValue.valueError "reflectlite.Value.Type" 0) (λt _ _ _=>ReflectliteType.toType t)) Tryz.func81 (by kernel_rfl) (by kernel_rfl) (by kernel_rfl) (by kernel_rfl)
  have h8:=@run_callFunc_extern Tryz.prog 82 _ (ReflectliteValue.method (ReflectliteValue.valueError "reflectlite.Value.IsNil" 0) ReflectliteValue.isNil) Tryz.func82 (by kernel_rfl) (by kernel_rfl) (by kernel_rfl) (by kernel_rfl)
  have I:=@run_callFunc_extern Tryz.prog 199 _ (ReflectliteType.abiMethod λt=>do pure (.int .u8 (← Rtype.kind t))) Tryz.func199 (by kernel_rfl) (by kernel_rfl) (by kernel_rfl) (by kernel_rfl);have J:=@run_callFunc_extern Tryz.prog 209 _ (ReflectliteType.method ReflectliteType.elem) Tryz.func209 (by kernel_rfl) (by kernel_rfl) (by kernel_rfl) (by kernel_rfl);have L:=@run_callFunc_extern Tryz.prog 210 _ (ReflectliteType.relation "Implements" ReflectliteType.implements_) Tryz.func210 (by kernel_rfl) (by kernel_rfl) (by kernel_rfl) (by kernel_rfl)
  have O:=@run_callFunc_extern Tryz.prog 127 _ ReflectliteType.typeOf Tryz.func127 (by kernel_rfl) (by kernel_rfl) (by kernel_rfl) (by kernel_rfl);have V:=@run_callFunc_extern Tryz.prog 207 _ (ReflectliteType.relation "AssignableTo" ReflectliteType.assignableTo) Tryz.func207 (by kernel_rfl) (by kernel_rfl) (by kernel_rfl) (by kernel_rfl)
  have W:=@run_callFunc_extern Tryz.prog 128 _ (ReflectliteValue.method (ReflectliteValue.valueError "reflectlite.Value.Elem" 0) ReflectliteValue.elem) Tryz.func128 (by kernel_rfl) (by kernel_rfl) (by kernel_rfl) (by kernel_rfl)
  have Y:=@run_callFunc_extern Tryz.prog 129 _ ReflectliteValue.set Tryz.func129 (by kernel_rfl) (by kernel_rfl) (by kernel_rfl) (by kernel_rfl);have tO:=r_w;have mA:=r_t;have a0:=r_x;have a1:=r_y;have f6:=r_l;have f7:=r_m;have mK:=r_n;have mE:=r_r;have mI:=r_s;have a2:=r_o;have a3:=r_p;have a4:=r_u;have a5:=r_v;have n8:=r_q ⟨w.heap.size,0,none⟩ t ((w.alloc<|.cells #[.pointer (some t)] 79).alloc (.cells #[.pointer (some ⟨5,79,none⟩),.pointer<|some ⟨w.heap.size,0,none⟩,.int .u64 150] 125)) (by simp);have hlt:0<w.heap.size:=World.block_lt_of_cell? w _ hg
  have a6:((w.alloc<|.cells #[.pointer (some t)] 79).alloc (.cells #[.pointer (some ⟨5,79,none⟩),.pointer<|some ⟨w.heap.size,0,none⟩,.int .u64 150] 125)).cell? ⟨0,0,none⟩=some (.iface 177<|.agg #[.pointer (some ⟨5,74,none⟩)]):=by
    rw [World.cell?_alloc_lt _ _ ⟨0,0,none⟩ (by simp <;> omega),World.cell?_alloc_lt _ _ ⟨0,0,none⟩ hlt];exact hg
  have htl:t.block<w.heap.size:=by
    rcases Nat.lt_or_ge t.block w.heap.size with h | h
    . exact h
    . simp [World.cell?,Array.getElem?_eq_none h] at G
  have el:=r_B ⟨w.heap.size,0,none⟩ t (((w.alloc<|.cells #[.pointer (some t)] 79).alloc (.cells #[.pointer (some ⟨5,79,none⟩),.pointer<|some ⟨w.heap.size,0,none⟩,.int .u64 150] 125)).alloc (.cells #[.pointer (some ⟨5,79,none⟩),.pointer<|some ⟨w.heap.size,0,none⟩,.int .u64 150] 125)) (by rw [World.cell?_alloc_lt _ _ ⟨w.heap.size,0,none⟩ (by simp;omega)];simp)
  have st:=r_F t ⟨w.heap.size+1+1+1,0,none⟩ e old ((((w.alloc<|.cells #[.pointer (some t)] 79).alloc (.cells #[.pointer (some ⟨5,79,none⟩),.pointer<|some ⟨w.heap.size,0,none⟩,.int .u64 150] 125)).alloc (.cells #[.pointer (some ⟨5,79,none⟩),.pointer<|some ⟨w.heap.size,0,none⟩,.int .u64 150] 125)).alloc (.cells #[.pointer (some e)] 77))
    (by rw [World.cell?_alloc_at _ _ _ _ (by simp)];rfl)
    (by rw [World.cell?_alloc_lt _ _ t (by simp;omega),World.cell?_alloc_lt _ _ t (by simp;omega),World.cell?_alloc_lt _ _ t (by simp;omega),World.cell?_alloc_lt _ _ t htl];exact G)
    (by rw [World.frozen?_alloc_old _ _ t (by simp;omega),World.frozen?_alloc_old _ _ t (by simp;omega),World.frozen?_alloc_old _ _ t (by simp;omega),World.frozen?_alloc_old _ _ t<|Nat.ne_of_lt htl];exact H)
  go_enter Tryz.func37,Tryz.ntmps37
  go_wp2
  refine wp_loop_rounds 1 ?_
  rw [rounds_succ]
  go_wp2
  go_ret
  exact ⟨rfl,rfl⟩
theorem r_G {S:List Nat}{v t:Value}{w:World}{o:Option (Int×Int)}(h:a_A 77 w S v o)(ho:o.isSome=false):f_ Tryz.prog 37 [v,t] w (λr w'=>vB false=r/\Below w.heap.size w w'):=by
  cases o with
  | some _=>cases ho
  | none =>
  obtain ⟨rfl,_⟩:=h;exact ⟨(as_nil t w).mono λe w' ⟨he,hw⟩=>⟨_,he,rfl,hw ▸ Below.refl _ _⟩⟩
theorem r_H {S:List Nat}{v:Value}{w:World}{B:Zone}{g:Nat}{o:Option (Int×Int)}{p c:Int}(hG:Gl w B)(h:a_A 77 w S v o)(ho:o=some (p,c))(hb:Blk w g [.pointer none]) :
    f_ Tryz.prog 37 [v,.iface 79<|.pointer<|some ⟨g,0,none⟩] w (λr w'=>∃ge,vB true=r/\Chg (· = g) w w'/\Blk w' g [.pointer (some ⟨ge,0,none⟩)]/\Blk w ge [vI p,vI c]/\ge∈S/\inI p/\inI c):=by
  subst ho;obtain ⟨b,rfl,rfl,hbk,hp,hc⟩:=h;refine ⟨(as_hit ⟨b,0,none⟩ ⟨g,0,none⟩ (.pointer none) w (gl_err hG) (hb.at rfl)<|hb.free (i:=0) Nat.zero_lt_one).mono λe w' ⟨he,hw⟩=>⟨_,he,b,rfl,?_,?_,hbk,List.mem_singleton.2 rfl,hp,hc⟩⟩
  . subst hw;exact as_chg hb
  . subst hw;exact as_blk hb
end
end Go.Vw
