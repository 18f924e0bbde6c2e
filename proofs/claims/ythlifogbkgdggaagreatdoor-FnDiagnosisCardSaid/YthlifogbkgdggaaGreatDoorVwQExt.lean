/- The package-level variables, and the library's functions that are called. -/
import Derived.Test.YthlifogbkgdggaaGreatDoorVmA
import Derived.WalkKit
import Derived.LaidEql
import Derived.Stop.Asserts
import Derived.RowKitTokens
import Derived.Test.YthlifogbkgdggaaGreatDoorShelf
set_option linter.unusedVariables false
namespace Go.Vw
open Go.RowKit Dat Go.Proofs
/-- What the variables hold. -/
def GD (w:World):Prop:=Lib.TabIs Tryz.prog w "internal/strconv.uint64pow10" .u64 Lib.pow10Tab/\∃a:Addr,w.cell? ⟨0,0,none⟩=some (.iface 178 (.pointer (some a)))
abbrev Gl:World->Zone->Prop:=GlW 5 GD
theorem gl_tab {w:World}{B:Zone}(h:Gl w B):Lib.TabIs Tryz.prog w "internal/strconv.uint64pow10" .u64 Lib.pow10Tab:=h.tab (fun _ h=>h.1) (by kernel_rfl:Tryz.prog.globalNamed "internal/strconv.uint64pow10" = some 1) (by decide)
def n_E (w0:World)(B:Zone)(r:Str)(v:Value)(w':World):Prop:=Below w0.heap.size w0 w'/\(fun G=>(Str.v G)=v/\G.b.length<=LEN) r
theorem n_F {B:Zone}{x1:Int}{res:Str}{w0:World}(hm:g_v x1=some res)(H:B<=w0.heap.size)(hG:Gl w0 B)(G:inI x1):j_ Tryz.prog 57 [vI x1] w0 (n_E w0 B res):=by
  obtain rfl:=som hm;exact (l_J<|Tryz.strconv_Itoa x1 (by unfold inI at G;omega) (by unfold inI at G;omega) w0<|gl_tab hG).mono fun v w' h=>⟨h.2,h.1,Nat.le_trans (Lib.itoa_length_le x1 (by unfold inI at G;omega) (by unfold inI at G;omega))<|Nat.le_of_ble_eq_true rfl⟩
def n_G (w0:World)(B:Zone)(r:Str)(v:Value)(w':World):Prop:=Below w0.heap.size w0 w'/\(fun G=>(Str.v G)=v/\G.b.length<=LEN) r
theorem n_H {B:Zone}{x1:List Str}{x2:Str}{res:Str}{A0:Option Addr}{N0 C0:Nat}{w0:World}(hm:g_x x1 x2=some res)(H:B<=w0.heap.size)(G:repS w0 B (.slice A0 N0 C0) x1)(I:x2.b.length<=LEN):j_ Tryz.prog 58 [.slice A0 N0 C0,Str.v x2] w0 (n_G w0 B res):=by
  obtain ⟨rfl,hc,hN,h⟩:=l_M G;unfold g_x at hm
  split at hm
  · rename_i hle
    obtain rfl:=som hm
    rcases h with rfl | ⟨b,o,rfl,hb,hcells⟩
    · exact ⟨(Tryz.strings_Join_none A0 C0 ⟨x2.b.toArray⟩ w0).mono fun e w' ⟨he,hw⟩=>⟨_,he,hw ▸ g_i w0,rfl,hle⟩⟩
    · have hj:=Tryz.strings_Join b o C0 (x1.map (fun s=>(⟨s.b.toArray⟩:ByteArray))) ⟨x2.b.toArray⟩ w0 hcells (zt' H (Nat.le_refl _) b hb) (by rw [List.length_map];exact hN) (by rw [List.length_map];exact hc) (by
        have:=congrArg (fun z:ByteArray=>z.data.size)<|j_t x1 x2
        simp only [List.size_toArray] at this
        rw [this];exact hle)
      rw [j_t,List.length_map] at hj
      exact l_N hj fun w' hw=>⟨hw,rfl,hle⟩
  · cases hm
theorem k_s {w:World}{B:Zone}(h:Gl w B):∃a:Addr,w.cell? ⟨0,0,none⟩=some (.iface 178<|.pointer<|some a):=by
  obtain ⟨u,hu,he⟩:=h.at_;obtain ⟨a,ha⟩:=hu.2;exact ⟨a,by rw [World.cell?_of_block (w:=u) (he _ (by decide))];exact ha⟩
section
open Go.Extern.Stop Go.Stop Go.Extern
/-! ### errors.Is of nil or a *truncation at the sentinel that it unwraps to (after the kit's worked example) -/
theorem n_I (v:Value)(w:World):(Extern.ReflectliteType.typeOf #[.iface 178 v]).run Tryz.prog w = .ok (.iface 136<|.agg #[.pointer (some ⟨5,178,none⟩)]) w:=by kernel_rfl
def compM:Array Value->Sem Value:=ReflectliteType.method fun t=>do Rtype.noPackHeld "Comparable" t;pure (.bool (← typeInfo t).comparable)
theorem n_J (w:World):(compM #[.agg #[.pointer (some ⟨5,178,none⟩)]]).run Tryz.prog w = .ok (.bool true) w:=by kernel_rfl
theorem n_K (v:Value)(w:World):(Go.method 312 136 v "Comparable").run Tryz.prog w = .ok (161,v) w:=by kernel_rfl
theorem n_L:(Tryz.prog.info? 178).map (·.comparable)=some true:=by kernel_rfl
theorem n_M:(Tryz.prog.info? 201).map (·.size)=some 1:=by kernel_rfl
theorem n_N (v:Value)(xT:TypeId)(w:World):(Instr.typeAssert (.iface 103 v) xT 138 true).run Tryz.prog w = .ok (.tuple #[.nilIface,.bool false]) w:=run_typeAssert_lacksB Tryz.underlying138 (by kernel_rfl) (by kernel_rfl) v xT w
theorem n_O (v:Value)(xT:TypeId)(w:World):(Instr.typeAssert (.iface 103 v) xT 141 true).run Tryz.prog w = .ok (.tuple #[.iface 103 v,.bool true]) w:=run_typeAssert_hasB Tryz.underlying141 (by kernel_rfl) v xT w
theorem n_P (v:Value)(w:World):(Go.method 312 103 v "Unwrap").run Tryz.prog w = .ok (156,v) w:=by kernel_rfl
theorem is_nil (b:Addr)(w:World):Calls Tryz.prog 36 #[.nilIface,.iface 178<|.pointer<|some b] w fun e w'=>e = .returned (.bool false)/\w'=w:=by
  have hn:=run_eql_iface_nil_left (P:=Tryz.prog) w 178 (.pointer<|some b) Tryz.underlying68
  go_enter Tryz.func36,Tryz.ntmps36
  go_wp2
  go_ret
  exact ⟨rfl,rfl⟩
set_option maxHeartbeats 4000000 in
theorem n_Q (p b:Addr)(w:World)(h1:w.cell? ⟨0,0,none⟩=some (.iface 178<|.pointer<|some b)):Calls Tryz.prog 36 #[.iface 103 (.pointer<|some p),.iface 178<|.pointer<|some b] w fun e w'=>e = .returned (.bool true)/\w'=w:=by
  obtain ⟨i,hi,hcmp⟩:=Option.map_eq_some_iff.1 n_L;obtain ⟨j,hj,hjs⟩:=Option.map_eq_some_iff.1 n_M;have H:=@run_callFunc_extern Tryz.prog 63 _ Extern.ReflectliteType.typeOf Tryz.func63 (by kernel_rfl) (by kernel_rfl) (by kernel_rfl) (by kernel_rfl);have G:=@run_callFunc_extern Tryz.prog 161 _ compM Tryz.func161 (by kernel_rfl) (by kernel_rfl) (by kernel_rfl) (by kernel_rfl);have tT:=n_I;have cT:=n_J;have mR:=n_K;have nW:=n_N;have uW:=n_O;have mU:=n_P;have heq:=run_eql_iface_ptr_same (P:=Tryz.prog) w b Tryz.underlying68 Tryz.underlying178 hi hcmp hj;have hty:=run_eql_iface_types (P:=Tryz.prog) 103 178 (.pointer<|some p) (.pointer<|some b) Tryz.underlying68 (by decide) w
  go_enter Tryz.func36,Tryz.ntmps36
  go_wp2
  refine wp_loop_rounds 2 ?_
  rw [rounds_succ]
  go_wp2
  rw [rounds_succ]
  go_wp2
  go_ret
  exact ⟨rfl,rfl⟩
theorem n_R {v:Value}{b:Addr}{w:World}{r:Bool}(h:(r=true/\∃a:Addr,v = .iface 103 (.pointer<|some a))∨(r=false/\v = .nilIface))(hg:w.cell? ⟨0,0,none⟩=some (.iface 178<|.pointer<|some b)):j_ Tryz.prog 36 [v,.iface 178<|.pointer<|some b] w (fun u w'=>vB r=u/\Below w.heap.size w w'):=by
  rcases h with ⟨rfl,a,rfl⟩ | ⟨rfl,rfl⟩
  · exact ⟨(n_Q a b w hg).mono fun e w' ⟨he,hw⟩=>⟨_,he,rfl,hw ▸ Below.refl _ _⟩⟩
  · exact ⟨(is_nil b w).mono fun e w' ⟨he,hw⟩=>⟨_,he,rfl,hw ▸ Below.refl _ _⟩⟩
end
end Go.Vw
