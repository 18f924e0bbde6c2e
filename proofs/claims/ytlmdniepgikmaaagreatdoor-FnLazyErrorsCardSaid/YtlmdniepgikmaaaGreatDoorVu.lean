
import Derived.Test.YtlmdniepgikmaaaGreatDoorV0
import Derived.Test.YtlmdniepgikmaaaGreatDoorProg
set_option linter.unusedVariables false
namespace Go.Vw
open Go.RowKit Dat Go.Proofs
theorem mo:Tryz.prog.follows .mixedOrders=true:=by kernel_rfl
def shV (s:Value):Nat->Value
  | 1=>.iface 153<|.agg #[]
  | 2=>.iface 154<|.agg #[]
  | 5=>.iface 155<|.agg #[]
  | 6=>.iface 158<|.agg #[s]
  | 7=>.iface 159<|.agg #[]
  | 8=>.iface 161<|.agg #[]
  | 9=>.iface 162<|.agg #[]
  | 10=>.nilIface
  | _=>.iface 192<|.agg #[]
theorem ta_153 {X:Nat->Prop}{N:Nat}{e:Env}{w:World}{dst:Option Tmp}{ty S:TypeId}{pos:String}{aft:Array Edge}{gd:Option (Nat×Bool)}{x:Operand}{s:Value}{k:Nat}(hx:ev e x=some (shV s k))(h:(k==1)=true):Rd X Tryz.prog N ⟨dst,.typeAssert x S 153 true,ty,pos,aft,gd⟩ e w (.tuple #[.agg #[],.bool true]):=λa ha w' _=>by
  obtain rfl:k=1:=by simpa using h
  simp [execOp,ha.ev hx,shV,Instr.typeAssert,run_underlying Tryz.underlying153]
theorem o_A {X:Nat->Prop}{N:Nat}{e:Env}{w:World}{dst:Option Tmp}{ty S:TypeId}{pos:String}{aft:Array Edge}{gd:Option (Nat×Bool)}{x:Operand}{s:Value}{k:Nat}(hx:ev e x=some (shV s k))(h:(k==1)=false):Rd X Tryz.prog N ⟨dst,.typeAssert x S 153 true,ty,pos,aft,gd⟩ e w (.tuple #[.agg #[],.bool false]):=λa ha w' _=>by
  have hk:k ≠ 1:=by simpa using h
  have hz:=Tryz.zeroValue153 w'
  simp only [execOp,ha.ev hx]
  unfold shV
  split <;> simp_all [Instr.typeAssert,run_underlying Tryz.underlying153]
theorem ta_154 {X:Nat->Prop}{N:Nat}{e:Env}{w:World}{dst:Option Tmp}{ty S:TypeId}{pos:String}{aft:Array Edge}{gd:Option (Nat×Bool)}{x:Operand}{s:Value}{k:Nat}(hx:ev e x=some (shV s k))(h:(k==2)=true):Rd X Tryz.prog N ⟨dst,.typeAssert x S 154 true,ty,pos,aft,gd⟩ e w (.tuple #[.agg #[],.bool true]):=λa ha w' _=>by
  obtain rfl:k=2:=by simpa using h
  simp [execOp,ha.ev hx,shV,Instr.typeAssert,run_underlying Tryz.underlying154]
theorem o_B {X:Nat->Prop}{N:Nat}{e:Env}{w:World}{dst:Option Tmp}{ty S:TypeId}{pos:String}{aft:Array Edge}{gd:Option (Nat×Bool)}{x:Operand}{s:Value}{k:Nat}(hx:ev e x=some (shV s k))(h:(k==2)=false):Rd X Tryz.prog N ⟨dst,.typeAssert x S 154 true,ty,pos,aft,gd⟩ e w (.tuple #[.agg #[],.bool false]):=λa ha w' _=>by
  have hk:k ≠ 2:=by simpa using h
  have hz:=Tryz.zeroValue154 w'
  simp only [execOp,ha.ev hx]
  unfold shV
  split <;> simp_all [Instr.typeAssert,run_underlying Tryz.underlying154]
theorem ta_155 {X:Nat->Prop}{N:Nat}{e:Env}{w:World}{dst:Option Tmp}{ty S:TypeId}{pos:String}{aft:Array Edge}{gd:Option (Nat×Bool)}{x:Operand}{s:Value}{k:Nat}(hx:ev e x=some (shV s k))(h:(k==5)=true):Rd X Tryz.prog N ⟨dst,.typeAssert x S 155 true,ty,pos,aft,gd⟩ e w (.tuple #[.agg #[],.bool true]):=λa ha w' _=>by
  obtain rfl:k=5:=by simpa using h
  simp [execOp,ha.ev hx,shV,Instr.typeAssert,run_underlying Tryz.underlying155]
theorem o_C {X:Nat->Prop}{N:Nat}{e:Env}{w:World}{dst:Option Tmp}{ty S:TypeId}{pos:String}{aft:Array Edge}{gd:Option (Nat×Bool)}{x:Operand}{s:Value}{k:Nat}(hx:ev e x=some (shV s k))(h:(k==5)=false):Rd X Tryz.prog N ⟨dst,.typeAssert x S 155 true,ty,pos,aft,gd⟩ e w (.tuple #[.agg #[],.bool false]):=λa ha w' _=>by
  have hk:k ≠ 5:=by simpa using h
  have hz:=Tryz.zeroValue155 w'
  simp only [execOp,ha.ev hx]
  unfold shV
  split <;> simp_all [Instr.typeAssert,run_underlying Tryz.underlying155]
theorem ta_158 {X:Nat->Prop}{N:Nat}{e:Env}{w:World}{dst:Option Tmp}{ty S:TypeId}{pos:String}{aft:Array Edge}{gd:Option (Nat×Bool)}{x:Operand}{s:Value}{k:Nat}(hx:ev e x=some (shV s k))(h:(k==6)=true):Rd X Tryz.prog N ⟨dst,.typeAssert x S 158 true,ty,pos,aft,gd⟩ e w (.tuple #[.agg #[s],.bool true]):=λa ha w' _=>by
  obtain rfl:k=6:=by simpa using h
  simp [execOp,ha.ev hx,shV,Instr.typeAssert,run_underlying Tryz.underlying158]
theorem o_D {X:Nat->Prop}{N:Nat}{e:Env}{w:World}{dst:Option Tmp}{ty S:TypeId}{pos:String}{aft:Array Edge}{gd:Option (Nat×Bool)}{x:Operand}{s:Value}{k:Nat}(hx:ev e x=some (shV s k))(h:(k==6)=false):Rd X Tryz.prog N ⟨dst,.typeAssert x S 158 true,ty,pos,aft,gd⟩ e w (.tuple #[.agg #[.slice none 0 0],.bool false]):=λa ha w' _=>by
  have hk:k ≠ 6:=by simpa using h
  have hz:=Tryz.zeroValue158 w'
  simp only [execOp,ha.ev hx]
  unfold shV
  split <;> simp_all [Instr.typeAssert,run_underlying Tryz.underlying158]
theorem ta_159 {X:Nat->Prop}{N:Nat}{e:Env}{w:World}{dst:Option Tmp}{ty S:TypeId}{pos:String}{aft:Array Edge}{gd:Option (Nat×Bool)}{x:Operand}{s:Value}{k:Nat}(hx:ev e x=some (shV s k))(h:(k==7)=true):Rd X Tryz.prog N ⟨dst,.typeAssert x S 159 true,ty,pos,aft,gd⟩ e w (.tuple #[.agg #[],.bool true]):=λa ha w' _=>by
  obtain rfl:k=7:=by simpa using h
  simp [execOp,ha.ev hx,shV,Instr.typeAssert,run_underlying Tryz.underlying159]
theorem o_E {X:Nat->Prop}{N:Nat}{e:Env}{w:World}{dst:Option Tmp}{ty S:TypeId}{pos:String}{aft:Array Edge}{gd:Option (Nat×Bool)}{x:Operand}{s:Value}{k:Nat}(hx:ev e x=some (shV s k))(h:(k==7)=false):Rd X Tryz.prog N ⟨dst,.typeAssert x S 159 true,ty,pos,aft,gd⟩ e w (.tuple #[.agg #[],.bool false]):=λa ha w' _=>by
  have hk:k ≠ 7:=by simpa using h
  have hz:=Tryz.zeroValue159 w'
  simp only [execOp,ha.ev hx]
  unfold shV
  split <;> simp_all [Instr.typeAssert,run_underlying Tryz.underlying159]
theorem ta_161 {X:Nat->Prop}{N:Nat}{e:Env}{w:World}{dst:Option Tmp}{ty S:TypeId}{pos:String}{aft:Array Edge}{gd:Option (Nat×Bool)}{x:Operand}{s:Value}{k:Nat}(hx:ev e x=some (shV s k))(h:(k==8)=true):Rd X Tryz.prog N ⟨dst,.typeAssert x S 161 true,ty,pos,aft,gd⟩ e w (.tuple #[.agg #[],.bool true]):=λa ha w' _=>by
  obtain rfl:k=8:=by simpa using h
  simp [execOp,ha.ev hx,shV,Instr.typeAssert,run_underlying Tryz.underlying161]
theorem o_F {X:Nat->Prop}{N:Nat}{e:Env}{w:World}{dst:Option Tmp}{ty S:TypeId}{pos:String}{aft:Array Edge}{gd:Option (Nat×Bool)}{x:Operand}{s:Value}{k:Nat}(hx:ev e x=some (shV s k))(h:(k==8)=false):Rd X Tryz.prog N ⟨dst,.typeAssert x S 161 true,ty,pos,aft,gd⟩ e w (.tuple #[.agg #[],.bool false]):=λa ha w' _=>by
  have hk:k ≠ 8:=by simpa using h
  have hz:=Tryz.zeroValue161 w'
  simp only [execOp,ha.ev hx]
  unfold shV
  split <;> simp_all [Instr.typeAssert,run_underlying Tryz.underlying161]
theorem ta_162 {X:Nat->Prop}{N:Nat}{e:Env}{w:World}{dst:Option Tmp}{ty S:TypeId}{pos:String}{aft:Array Edge}{gd:Option (Nat×Bool)}{x:Operand}{s:Value}{k:Nat}(hx:ev e x=some (shV s k))(h:(k==9)=true):Rd X Tryz.prog N ⟨dst,.typeAssert x S 162 true,ty,pos,aft,gd⟩ e w (.tuple #[.agg #[],.bool true]):=λa ha w' _=>by
  obtain rfl:k=9:=by simpa using h
  simp [execOp,ha.ev hx,shV,Instr.typeAssert,run_underlying Tryz.underlying162]
theorem o_G {X:Nat->Prop}{N:Nat}{e:Env}{w:World}{dst:Option Tmp}{ty S:TypeId}{pos:String}{aft:Array Edge}{gd:Option (Nat×Bool)}{x:Operand}{s:Value}{k:Nat}(hx:ev e x=some (shV s k))(h:(k==9)=false):Rd X Tryz.prog N ⟨dst,.typeAssert x S 162 true,ty,pos,aft,gd⟩ e w (.tuple #[.agg #[],.bool false]):=λa ha w' _=>by
  have hk:k ≠ 9:=by simpa using h
  have hz:=Tryz.zeroValue162 w'
  simp only [execOp,ha.ev hx]
  unfold shV
  split <;> simp_all [Instr.typeAssert,run_underlying Tryz.underlying162]
abbrev e_G:=@Tryz.isAgg113
abbrev a_n:=@Tryz.isAgg133
abbrev g_144:=@Tryz.isAgg144
abbrev V_:=@Tryz.isAgg22
abbrev S_:=@Tryz.isAgg24
abbrev t_:=@Tryz.isAgg26
abbrev g_3:=@Tryz.isAgg3
abbrev c_n:=@Tryz.isAgg31
abbrev g_4:=@Tryz.isAgg4
abbrev a_t:=@Tryz.isAgg47
abbrev A_:=@Tryz.isAgg49
abbrev g_5:=@Tryz.isAgg5
abbrev b_i:=@Tryz.isAgg54
abbrev g_62:=@Tryz.isAgg62
abbrev z_:=@Tryz.isAgg70
abbrev L_:=@Tryz.isAgg72
abbrev g_9:=@Tryz.isAgg9
theorem o_H:b_s Tryz.prog 131 [(.slice none 0 0),.slice none 0 0,(.int .i64 0)] [(0,1),(1,1),(2,1)]:=⟨λw=>Tryz.zeroValue131 w,_,Tryz.underlying131,λw=>by simp [Tryz.sizeOf22,Tryz.sizeOf26,Tryz.sizeOf3]⟩
theorem c_y:b_s Tryz.prog 133 [(.int .i64 0),(.int .i64 0)] [(0,1),(1,1)]:=⟨λw=>Tryz.zeroValue133 w,_,Tryz.underlying133,λw=>by simp [Tryz.sizeOf3]⟩
theorem o_I:b_s Tryz.prog 139 [(.slice none 0 0),(.slice none 0 0)] [(0,1),(1,1)]:=⟨λw=>Tryz.zeroValue139 w,_,Tryz.underlying139,λw=>by simp [Tryz.sizeOf22,Tryz.sizeOf26]⟩
theorem o_J:b_s Tryz.prog 148 [(.int .i64 0),(.int .i64 0)] [(0,1),(1,1)]:=⟨λw=>Tryz.zeroValue148 w,_,Tryz.underlying148,λw=>by simp [Tryz.sizeOf3]⟩
theorem o_K:b_s Tryz.prog 153 [] []:=⟨λw=>Tryz.zeroValue153 w,_,Tryz.underlying153,λw=>by simp []⟩
theorem o_L:b_s Tryz.prog 154 [] []:=⟨λw=>Tryz.zeroValue154 w,_,Tryz.underlying154,λw=>by simp []⟩
theorem o_M:b_s Tryz.prog 155 [] []:=⟨λw=>Tryz.zeroValue155 w,_,Tryz.underlying155,λw=>by simp []⟩
theorem o_N:b_s Tryz.prog 158 [(.slice none 0 0)] [(0,1)]:=⟨λw=>Tryz.zeroValue158 w,_,Tryz.underlying158,λw=>by simp [Tryz.sizeOf54]⟩
theorem o_O:b_s Tryz.prog 159 [] []:=⟨λw=>Tryz.zeroValue159 w,_,Tryz.underlying159,λw=>by simp []⟩
theorem o_P:b_s Tryz.prog 161 [] []:=⟨λw=>Tryz.zeroValue161 w,_,Tryz.underlying161,λw=>by simp []⟩
theorem o_Q:b_s Tryz.prog 162 [] []:=⟨λw=>Tryz.zeroValue162 w,_,Tryz.underlying162,λw=>by simp []⟩
theorem o_R:b_s Tryz.prog 192 [] []:=⟨λw=>Tryz.zeroValue192 w,_,Tryz.underlying192,λw=>by simp []⟩
theorem l_A:b_s Tryz.prog 26 [(.slice none 0 0)] [(0,1)]:=⟨λw=>Tryz.zeroValue26 w,_,Tryz.underlying26,λw=>by simp [Tryz.sizeOf24]⟩
theorem d_q:b_s Tryz.prog 31 [(Str.v ⟨[]⟩),.int .i64 0,.int .i64 0,(.int .i64 0)] [(0,1),(1,1),(2,1),(3,1)]:=⟨λw=>Tryz.zeroValue31 w,_,Tryz.underlying31,λw=>by simp [Tryz.sizeOf3,Tryz.sizeOf9]⟩
theorem a_4:b_s Tryz.prog 49 [(.int .i64 0),.slice none 0 0,(.slice none 0 0)] [(0,1),(1,1),(2,1)]:=⟨λw=>Tryz.zeroValue49 w,_,Tryz.underlying49,λw=>by simp [Tryz.sizeOf22,Tryz.sizeOf3,Tryz.sizeOf47]⟩
theorem o_S:b_s Tryz.prog 61 [(.slice none 0 0),.slice none 0 0,.int .i64 0,(.int .i64 0)] [(0,1),(1,1),(2,1),(3,1)]:=⟨λw=>Tryz.zeroValue61 w,_,Tryz.underlying61,λw=>by simp [Tryz.sizeOf22,Tryz.sizeOf26,Tryz.sizeOf3]⟩
theorem o_T:b_s Tryz.prog 72 [(Str.v ⟨[]⟩),.int .i64 0,.int .i64 0,.bool false,.slice none 0 0,.slice none 0 0,.slice none 0 0,(.slice none 0 0)] [(0,1),(1,1),(2,1),(3,1),(4,1),(5,1),(6,1),(7,1)]:=⟨λw=>Tryz.zeroValue72 w,_,Tryz.underlying72,λw=>by simp [Tryz.sizeOf22,Tryz.sizeOf3,Tryz.sizeOf4,Tryz.sizeOf54,Tryz.sizeOf70,Tryz.sizeOf9]⟩
theorem o_U:b_s Tryz.prog 75 [(.slice none 0 0),.int .i64 0,(.int .i64 0)] [(0,1),(1,1),(2,1)]:=⟨λw=>Tryz.zeroValue75 w,_,Tryz.underlying75,λw=>by simp [Tryz.sizeOf22,Tryz.sizeOf3]⟩
theorem a_0:El Tryz.prog 22 5 1 1 (.int .u8 0):=⟨Tryz.underlying22,by kernel_rfl,rfl,by decide,by decide⟩
theorem h_R:El Tryz.prog 24 72 8 136 (.agg #[(Str.v ⟨[]⟩),.int .i64 0,.int .i64 0,.bool false,.slice none 0 0,.slice none 0 0,.slice none 0 0,(.slice none 0 0)]):=⟨Tryz.underlying24,by kernel_rfl,rfl,by decide,by decide⟩
theorem j_E:El Tryz.prog 27 31 4 40 (.agg #[(Str.v ⟨[]⟩),.int .i64 0,.int .i64 0,(.int .i64 0)]):=⟨Tryz.underlying27,by kernel_rfl,rfl,by decide,by decide⟩
theorem c_b:El Tryz.prog 47 49 3 56 (.agg #[(.int .i64 0),.slice none 0 0,(.slice none 0 0)]):=⟨Tryz.underlying47,by kernel_rfl,rfl,by decide,by decide⟩
theorem a_F:El Tryz.prog 54 9 1 16 (Str.v ⟨[]⟩):=⟨Tryz.underlying54,by kernel_rfl,rfl,by decide,by decide⟩
theorem b_a:El Tryz.prog 70 3 1 8 (.int .i64 0):=⟨Tryz.underlying70,by kernel_rfl,rfl,by decide,by decide⟩
theorem l_B:EqA Tryz.prog 31 (λx:D_=>Value.agg #[x.path.v,vI x.rule,vI x.start,vI x.end_]):=⟨λx y=>⟨_,_,_,rfl,rfl,Tryz.underlying31,(show decide (x=y)=((x.path.b==y.path.b) && ((x.rule==y.rule) && ((x.start==y.start) && ((x.end_==y.end_) && true)))) from Bool.eq_iff_iff.2 (by cases x;cases y;simp [Str.beq_dec])) ▸ (.cons rfl Tryz.isAgg9 rfl rfl (.str Tryz.underlying9)<|.cons rfl Tryz.isAgg3 rfl rfl (.int Tryz.underlying3)<|.cons rfl Tryz.isAgg3 rfl rfl (.int Tryz.underlying3)<|.cons rfl Tryz.isAgg3 rfl rfl (.int Tryz.underlying3) .nil)⟩,by kernel_rfl,by kernel_rfl⟩
theorem l_C:Fld Tryz.prog 131 0 0:=⟨_,_,Tryz.underlying131,rfl,rfl,1,λw=>Tryz.sizeOf26 w,by decide⟩
theorem d_r:Fld Tryz.prog 131 1 1:=⟨_,_,Tryz.underlying131,rfl,rfl,1,λw=>Tryz.sizeOf22 w,by decide⟩
theorem h_S:Fld Tryz.prog 131 2 2:=⟨_,_,Tryz.underlying131,rfl,rfl,1,λw=>Tryz.sizeOf3 w,by decide⟩
theorem c_H:Fld Tryz.prog 133 0 0:=⟨_,_,Tryz.underlying133,rfl,rfl,1,λw=>Tryz.sizeOf3 w,by decide⟩
theorem c_W:Fld Tryz.prog 133 1 1:=⟨_,_,Tryz.underlying133,rfl,rfl,1,λw=>Tryz.sizeOf3 w,by decide⟩
theorem l_D:Fld Tryz.prog 139 0 0:=⟨_,_,Tryz.underlying139,rfl,rfl,1,λw=>Tryz.sizeOf26 w,by decide⟩
theorem f_g:Fld Tryz.prog 139 1 1:=⟨_,_,Tryz.underlying139,rfl,rfl,1,λw=>Tryz.sizeOf22 w,by decide⟩
theorem o_V:Fld Tryz.prog 148 0 0:=⟨_,_,Tryz.underlying148,rfl,rfl,1,λw=>Tryz.sizeOf3 w,by decide⟩
theorem o_W:Fld Tryz.prog 148 1 1:=⟨_,_,Tryz.underlying148,rfl,rfl,1,λw=>Tryz.sizeOf3 w,by decide⟩
theorem o_X:Fld Tryz.prog 158 0 0:=⟨_,_,Tryz.underlying158,rfl,rfl,1,λw=>Tryz.sizeOf54 w,by decide⟩
theorem R_:Fld Tryz.prog 26 0 0:=⟨_,_,Tryz.underlying26,rfl,rfl,1,λw=>Tryz.sizeOf24 w,by decide⟩
theorem f_31_0:Fld Tryz.prog 31 0 0:=⟨_,_,Tryz.underlying31,rfl,rfl,1,λw=>Tryz.sizeOf9 w,by decide⟩
theorem l_E:Fld Tryz.prog 31 1 1:=⟨_,_,Tryz.underlying31,rfl,rfl,1,λw=>Tryz.sizeOf3 w,by decide⟩
theorem f_31_2:Fld Tryz.prog 31 2 2:=⟨_,_,Tryz.underlying31,rfl,rfl,1,λw=>Tryz.sizeOf3 w,by decide⟩
theorem f_31_3:Fld Tryz.prog 31 3 3:=⟨_,_,Tryz.underlying31,rfl,rfl,1,λw=>Tryz.sizeOf3 w,by decide⟩
theorem b_b:Fld Tryz.prog 49 0 0:=⟨_,_,Tryz.underlying49,rfl,rfl,1,λw=>Tryz.sizeOf3 w,by decide⟩
theorem b_6:Fld Tryz.prog 49 1 1:=⟨_,_,Tryz.underlying49,rfl,rfl,1,λw=>Tryz.sizeOf22 w,by decide⟩
theorem a_d:Fld Tryz.prog 49 2 2:=⟨_,_,Tryz.underlying49,rfl,rfl,1,λw=>Tryz.sizeOf47 w,by decide⟩
theorem j_F:Fld Tryz.prog 61 0 0:=⟨_,_,Tryz.underlying61,rfl,rfl,1,λw=>Tryz.sizeOf26 w,by decide⟩
theorem h_T:Fld Tryz.prog 61 1 1:=⟨_,_,Tryz.underlying61,rfl,rfl,1,λw=>Tryz.sizeOf22 w,by decide⟩
theorem e_H:Fld Tryz.prog 61 2 2:=⟨_,_,Tryz.underlying61,rfl,rfl,1,λw=>Tryz.sizeOf3 w,by decide⟩
theorem c_X:Fld Tryz.prog 61 3 3:=⟨_,_,Tryz.underlying61,rfl,rfl,1,λw=>Tryz.sizeOf3 w,by decide⟩
theorem d_R:Fld Tryz.prog 72 0 0:=⟨_,_,Tryz.underlying72,rfl,rfl,1,λw=>Tryz.sizeOf9 w,by decide⟩
theorem a_j:Fld Tryz.prog 72 1 1:=⟨_,_,Tryz.underlying72,rfl,rfl,1,λw=>Tryz.sizeOf3 w,by decide⟩
theorem a_C:Fld Tryz.prog 72 2 2:=⟨_,_,Tryz.underlying72,rfl,rfl,1,λw=>Tryz.sizeOf3 w,by decide⟩
theorem c_o:Fld Tryz.prog 72 3 3:=⟨_,_,Tryz.underlying72,rfl,rfl,1,λw=>Tryz.sizeOf4 w,by decide⟩
theorem b_1:Fld Tryz.prog 72 4 4:=⟨_,_,Tryz.underlying72,rfl,rfl,1,λw=>Tryz.sizeOf22 w,by decide⟩
theorem b_V:Fld Tryz.prog 72 5 5:=⟨_,_,Tryz.underlying72,rfl,rfl,1,λw=>Tryz.sizeOf54 w,by decide⟩
theorem a_W:Fld Tryz.prog 72 6 6:=⟨_,_,Tryz.underlying72,rfl,rfl,1,λw=>Tryz.sizeOf70 w,by decide⟩
theorem J_:Fld Tryz.prog 72 7 7:=⟨_,_,Tryz.underlying72,rfl,rfl,1,λw=>Tryz.sizeOf70 w,by decide⟩
theorem l_F:Fld Tryz.prog 75 0 0:=⟨_,_,Tryz.underlying75,rfl,rfl,1,λw=>Tryz.sizeOf22 w,by decide⟩
theorem h_U:Fld Tryz.prog 75 1 1:=⟨_,_,Tryz.underlying75,rfl,rfl,1,λw=>Tryz.sizeOf3 w,by decide⟩
theorem h_V:Fld Tryz.prog 75 2 2:=⟨_,_,Tryz.underlying75,rfl,rfl,1,λw=>Tryz.sizeOf3 w,by decide⟩
abbrev M_:=@Tryz.sizeOf133
abbrev z_153:=@Tryz.sizeOf153
abbrev z_154:=@Tryz.sizeOf154
abbrev z_155:=@Tryz.sizeOf155
abbrev z_158:=@Tryz.sizeOf158
abbrev z_159:=@Tryz.sizeOf159
abbrev z_161:=@Tryz.sizeOf161
abbrev z_162:=@Tryz.sizeOf162
abbrev z_22:=@Tryz.sizeOf22
abbrev z_24:=@Tryz.sizeOf24
abbrev p_:=@Tryz.sizeOf26
abbrev z_3:=@Tryz.sizeOf3
abbrev b_2:=@Tryz.sizeOf31
abbrev z_4:=@Tryz.sizeOf4
abbrev d_S:=@Tryz.sizeOf47
abbrev h_:=@Tryz.sizeOf49
abbrev z_5:=@Tryz.sizeOf5
abbrev d_T:=@Tryz.sizeOf54
abbrev d_s:=@Tryz.sizeOf70
abbrev n_:=@Tryz.sizeOf72
abbrev z_9:=@Tryz.sizeOf9
abbrev d_t:=@Tryz.underlying141
abbrev d_144:=@Tryz.underlying144
abbrev d_146:=@Tryz.underlying146
abbrev d_153:=@Tryz.underlying153
abbrev d_154:=@Tryz.underlying154
abbrev d_155:=@Tryz.underlying155
abbrev d_158:=@Tryz.underlying158
abbrev d_159:=@Tryz.underlying159
abbrev d_161:=@Tryz.underlying161
abbrev d_162:=@Tryz.underlying162
abbrev d_192:=@Tryz.underlying192
abbrev r_:=@Tryz.underlying22
abbrev T_:=@Tryz.underlying24
abbrev d_27:=@Tryz.underlying27
abbrev d_3:=@Tryz.underlying3
abbrev d_4:=@Tryz.underlying4
abbrev a_G:=@Tryz.underlying47
abbrev d_5:=@Tryz.underlying5
abbrev a_k:=@Tryz.underlying54
abbrev y_:=@Tryz.underlying70
abbrev d_9:=@Tryz.underlying9
theorem b_H (w:World):(zeroValue 133).run Tryz.prog w = .ok (.agg #[(.int .i64 0),(.int .i64 0)]) w:=Tryz.zeroValue133 w
theorem o_Y (w:World):(zeroValue 144).run Tryz.prog w = .ok (.pointer none) w:=Tryz.zeroValue144 w
theorem o_Z (w:World):(zeroValue 153).run Tryz.prog w = .ok (.agg #[]) w:=Tryz.zeroValue153 w
theorem p_0 (w:World):(zeroValue 154).run Tryz.prog w = .ok (.agg #[]) w:=Tryz.zeroValue154 w
theorem p_1 (w:World):(zeroValue 155).run Tryz.prog w = .ok (.agg #[]) w:=Tryz.zeroValue155 w
theorem p_2 (w:World):(zeroValue 158).run Tryz.prog w = .ok (.agg #[(.slice none 0 0)]) w:=Tryz.zeroValue158 w
theorem p_3 (w:World):(zeroValue 159).run Tryz.prog w = .ok (.agg #[]) w:=Tryz.zeroValue159 w
theorem p_4 (w:World):(zeroValue 161).run Tryz.prog w = .ok (.agg #[]) w:=Tryz.zeroValue161 w
theorem p_5 (w:World):(zeroValue 162).run Tryz.prog w = .ok (.agg #[]) w:=Tryz.zeroValue162 w
theorem c_I (w:World):(zeroValue 26).run Tryz.prog w = .ok (.agg #[(.slice none 0 0)]) w:=Tryz.zeroValue26 w
theorem zero_3 (w:World):(zeroValue 3).run Tryz.prog w = .ok (.int .i64 0) w:=Tryz.zeroValue3 w
theorem e_I (w:World):(zeroValue 31).run Tryz.prog w = .ok (.agg #[(Str.v ⟨[]⟩),.int .i64 0,.int .i64 0,(.int .i64 0)]) w:=Tryz.zeroValue31 w
theorem zero_4 (w:World):(zeroValue 4).run Tryz.prog w = .ok (.bool false) w:=Tryz.zeroValue4 w
theorem a_g (w:World):(zeroValue 49).run Tryz.prog w = .ok (.agg #[(.int .i64 0),.slice none 0 0,(.slice none 0 0)]) w:=Tryz.zeroValue49 w
theorem l_G (w:World):(zeroValue 54).run Tryz.prog w = .ok (.slice none 0 0) w:=Tryz.zeroValue54 w
theorem b_z (w:World):(zeroValue 72).run Tryz.prog w = .ok (.agg #[(Str.v ⟨[]⟩),.int .i64 0,.int .i64 0,.bool false,.slice none 0 0,.slice none 0 0,.slice none 0 0,(.slice none 0 0)]) w:=Tryz.zeroValue72 w
end Go.Vw
