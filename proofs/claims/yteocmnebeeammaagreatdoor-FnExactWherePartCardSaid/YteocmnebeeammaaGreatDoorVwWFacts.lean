
import Derived.Test.YteocmnebeeammaaGreatDoorVmA
import Derived.Test.YteocmnebeeammaaGreatDoorProg
set_option linter.unusedVariables false
namespace Go.Vw
open Go.RowKit Dat Go.Proofs
theorem mo:Tryz.prog.follows .mixedOrders=true:=by kernel_rfl
def shV (s:Value):Nat->Value
  | 1=>.iface 132<|.agg #[]
  | 2=>.iface 133<|.agg #[]
  | 5=>.iface 134<|.agg #[]
  | 6=>.iface 137<|.agg #[s]
  | 7=>.iface 138<|.agg #[]
  | 8=>.iface 140<|.agg #[]
  | 9=>.iface 141<|.agg #[]
  | 10=>.nilIface
  | _=>.iface 185<|.agg #[]
theorem ta_132 {X:Nat->Prop}{N:Nat}{e:Env}{w:World}{dst:Option Tmp}{ty S:TypeId}{pos:String}{aft:Array Edge}{gd:Option (Nat×Bool)}{x:Operand}{s:Value}{k:Nat}(hx:ev e x=some (shV s k))(h:(k==1)=true):Rd X Tryz.prog N ⟨dst,.typeAssert x S 132 true,ty,pos,aft,gd⟩ e w (.tuple #[.agg #[],.bool true]):=λa ha w' _=>by
  obtain rfl:k=1:=by simpa using h
  simp [execOp,ha.ev hx,shV,Instr.typeAssert,run_underlying Tryz.underlying132]
theorem t_q {X:Nat->Prop}{N:Nat}{e:Env}{w:World}{dst:Option Tmp}{ty S:TypeId}{pos:String}{aft:Array Edge}{gd:Option (Nat×Bool)}{x:Operand}{s:Value}{k:Nat}(hx:ev e x=some (shV s k))(h:(k==1)=false):Rd X Tryz.prog N ⟨dst,.typeAssert x S 132 true,ty,pos,aft,gd⟩ e w (.tuple #[.agg #[],.bool false]):=λa ha w' _=>by
  have hk:k ≠ 1:=by simpa using h
  have hz:=Tryz.zeroValue132 w'
  simp only [execOp,ha.ev hx]
  unfold shV
  split <;> simp_all [Instr.typeAssert,run_underlying Tryz.underlying132]
theorem ta_133 {X:Nat->Prop}{N:Nat}{e:Env}{w:World}{dst:Option Tmp}{ty S:TypeId}{pos:String}{aft:Array Edge}{gd:Option (Nat×Bool)}{x:Operand}{s:Value}{k:Nat}(hx:ev e x=some (shV s k))(h:(k==2)=true):Rd X Tryz.prog N ⟨dst,.typeAssert x S 133 true,ty,pos,aft,gd⟩ e w (.tuple #[.agg #[],.bool true]):=λa ha w' _=>by
  obtain rfl:k=2:=by simpa using h
  simp [execOp,ha.ev hx,shV,Instr.typeAssert,run_underlying Tryz.underlying133]
theorem t_r {X:Nat->Prop}{N:Nat}{e:Env}{w:World}{dst:Option Tmp}{ty S:TypeId}{pos:String}{aft:Array Edge}{gd:Option (Nat×Bool)}{x:Operand}{s:Value}{k:Nat}(hx:ev e x=some (shV s k))(h:(k==2)=false):Rd X Tryz.prog N ⟨dst,.typeAssert x S 133 true,ty,pos,aft,gd⟩ e w (.tuple #[.agg #[],.bool false]):=λa ha w' _=>by
  have hk:k ≠ 2:=by simpa using h
  have hz:=Tryz.zeroValue133 w'
  simp only [execOp,ha.ev hx]
  unfold shV
  split <;> simp_all [Instr.typeAssert,run_underlying Tryz.underlying133]
theorem ta_134 {X:Nat->Prop}{N:Nat}{e:Env}{w:World}{dst:Option Tmp}{ty S:TypeId}{pos:String}{aft:Array Edge}{gd:Option (Nat×Bool)}{x:Operand}{s:Value}{k:Nat}(hx:ev e x=some (shV s k))(h:(k==5)=true):Rd X Tryz.prog N ⟨dst,.typeAssert x S 134 true,ty,pos,aft,gd⟩ e w (.tuple #[.agg #[],.bool true]):=λa ha w' _=>by
  obtain rfl:k=5:=by simpa using h
  simp [execOp,ha.ev hx,shV,Instr.typeAssert,run_underlying Tryz.underlying134]
theorem t_s {X:Nat->Prop}{N:Nat}{e:Env}{w:World}{dst:Option Tmp}{ty S:TypeId}{pos:String}{aft:Array Edge}{gd:Option (Nat×Bool)}{x:Operand}{s:Value}{k:Nat}(hx:ev e x=some (shV s k))(h:(k==5)=false):Rd X Tryz.prog N ⟨dst,.typeAssert x S 134 true,ty,pos,aft,gd⟩ e w (.tuple #[.agg #[],.bool false]):=λa ha w' _=>by
  have hk:k ≠ 5:=by simpa using h
  have hz:=Tryz.zeroValue134 w'
  simp only [execOp,ha.ev hx]
  unfold shV
  split <;> simp_all [Instr.typeAssert,run_underlying Tryz.underlying134]
theorem ta_137 {X:Nat->Prop}{N:Nat}{e:Env}{w:World}{dst:Option Tmp}{ty S:TypeId}{pos:String}{aft:Array Edge}{gd:Option (Nat×Bool)}{x:Operand}{s:Value}{k:Nat}(hx:ev e x=some (shV s k))(h:(k==6)=true):Rd X Tryz.prog N ⟨dst,.typeAssert x S 137 true,ty,pos,aft,gd⟩ e w (.tuple #[.agg #[s],.bool true]):=λa ha w' _=>by
  obtain rfl:k=6:=by simpa using h
  simp [execOp,ha.ev hx,shV,Instr.typeAssert,run_underlying Tryz.underlying137]
theorem t_t {X:Nat->Prop}{N:Nat}{e:Env}{w:World}{dst:Option Tmp}{ty S:TypeId}{pos:String}{aft:Array Edge}{gd:Option (Nat×Bool)}{x:Operand}{s:Value}{k:Nat}(hx:ev e x=some (shV s k))(h:(k==6)=false):Rd X Tryz.prog N ⟨dst,.typeAssert x S 137 true,ty,pos,aft,gd⟩ e w (.tuple #[.agg #[.slice none 0 0],.bool false]):=λa ha w' _=>by
  have hk:k ≠ 6:=by simpa using h
  have hz:=Tryz.zeroValue137 w'
  simp only [execOp,ha.ev hx]
  unfold shV
  split <;> simp_all [Instr.typeAssert,run_underlying Tryz.underlying137]
theorem ta_138 {X:Nat->Prop}{N:Nat}{e:Env}{w:World}{dst:Option Tmp}{ty S:TypeId}{pos:String}{aft:Array Edge}{gd:Option (Nat×Bool)}{x:Operand}{s:Value}{k:Nat}(hx:ev e x=some (shV s k))(h:(k==7)=true):Rd X Tryz.prog N ⟨dst,.typeAssert x S 138 true,ty,pos,aft,gd⟩ e w (.tuple #[.agg #[],.bool true]):=λa ha w' _=>by
  obtain rfl:k=7:=by simpa using h
  simp [execOp,ha.ev hx,shV,Instr.typeAssert,run_underlying Tryz.underlying138]
theorem t_u {X:Nat->Prop}{N:Nat}{e:Env}{w:World}{dst:Option Tmp}{ty S:TypeId}{pos:String}{aft:Array Edge}{gd:Option (Nat×Bool)}{x:Operand}{s:Value}{k:Nat}(hx:ev e x=some (shV s k))(h:(k==7)=false):Rd X Tryz.prog N ⟨dst,.typeAssert x S 138 true,ty,pos,aft,gd⟩ e w (.tuple #[.agg #[],.bool false]):=λa ha w' _=>by
  have hk:k ≠ 7:=by simpa using h
  have hz:=Tryz.zeroValue138 w'
  simp only [execOp,ha.ev hx]
  unfold shV
  split <;> simp_all [Instr.typeAssert,run_underlying Tryz.underlying138]
theorem ta_140 {X:Nat->Prop}{N:Nat}{e:Env}{w:World}{dst:Option Tmp}{ty S:TypeId}{pos:String}{aft:Array Edge}{gd:Option (Nat×Bool)}{x:Operand}{s:Value}{k:Nat}(hx:ev e x=some (shV s k))(h:(k==8)=true):Rd X Tryz.prog N ⟨dst,.typeAssert x S 140 true,ty,pos,aft,gd⟩ e w (.tuple #[.agg #[],.bool true]):=λa ha w' _=>by
  obtain rfl:k=8:=by simpa using h
  simp [execOp,ha.ev hx,shV,Instr.typeAssert,run_underlying Tryz.underlying140]
theorem t_v {X:Nat->Prop}{N:Nat}{e:Env}{w:World}{dst:Option Tmp}{ty S:TypeId}{pos:String}{aft:Array Edge}{gd:Option (Nat×Bool)}{x:Operand}{s:Value}{k:Nat}(hx:ev e x=some (shV s k))(h:(k==8)=false):Rd X Tryz.prog N ⟨dst,.typeAssert x S 140 true,ty,pos,aft,gd⟩ e w (.tuple #[.agg #[],.bool false]):=λa ha w' _=>by
  have hk:k ≠ 8:=by simpa using h
  have hz:=Tryz.zeroValue140 w'
  simp only [execOp,ha.ev hx]
  unfold shV
  split <;> simp_all [Instr.typeAssert,run_underlying Tryz.underlying140]
theorem ta_141 {X:Nat->Prop}{N:Nat}{e:Env}{w:World}{dst:Option Tmp}{ty S:TypeId}{pos:String}{aft:Array Edge}{gd:Option (Nat×Bool)}{x:Operand}{s:Value}{k:Nat}(hx:ev e x=some (shV s k))(h:(k==9)=true):Rd X Tryz.prog N ⟨dst,.typeAssert x S 141 true,ty,pos,aft,gd⟩ e w (.tuple #[.agg #[],.bool true]):=λa ha w' _=>by
  obtain rfl:k=9:=by simpa using h
  simp [execOp,ha.ev hx,shV,Instr.typeAssert,run_underlying Tryz.underlying141]
theorem t_w {X:Nat->Prop}{N:Nat}{e:Env}{w:World}{dst:Option Tmp}{ty S:TypeId}{pos:String}{aft:Array Edge}{gd:Option (Nat×Bool)}{x:Operand}{s:Value}{k:Nat}(hx:ev e x=some (shV s k))(h:(k==9)=false):Rd X Tryz.prog N ⟨dst,.typeAssert x S 141 true,ty,pos,aft,gd⟩ e w (.tuple #[.agg #[],.bool false]):=λa ha w' _=>by
  have hk:k ≠ 9:=by simpa using h
  have hz:=Tryz.zeroValue141 w'
  simp only [execOp,ha.ev hx]
  unfold shV
  split <;> simp_all [Instr.typeAssert,run_underlying Tryz.underlying141]
abbrev g_148:=@Tryz.isAgg148
abbrev a_m:=@Tryz.isAgg193
abbrev g_22:=@Tryz.isAgg22
abbrev g_24:=@Tryz.isAgg24
abbrev X_:=@Tryz.isAgg25
abbrev a_t:=@Tryz.isAgg27
abbrev a_n:=@Tryz.isAgg29
abbrev g_3:=@Tryz.isAgg3
abbrev w_:=@Tryz.isAgg31
abbrev g_4:=@Tryz.isAgg4
abbrev g_42:=@Tryz.isAgg42
abbrev e_c:=@Tryz.isAgg46
abbrev a_E:=@Tryz.isAgg48
abbrev g_5:=@Tryz.isAgg5
abbrev y_:=@Tryz.isAgg50
abbrev E_:=@Tryz.isAgg58
abbrev g_60:=@Tryz.isAgg60
abbrev H_:=@Tryz.isAgg68
abbrev g_80:=@Tryz.isAgg80
abbrev f_r:=@Tryz.isAgg87
abbrev g_9:=@Tryz.isAgg9
theorem t_x:b_L Tryz.prog 104 [(.slice none 0 0),.slice none 0 0,(.slice none 0 0)] [(0,1),(1,1),(2,1)]:=⟨λw=>Tryz.zeroValue104 w,_,Tryz.underlying104,λw=>by simp [Tryz.sizeOf25,Tryz.sizeOf31,Tryz.sizeOf42]⟩
theorem t_y:b_L Tryz.prog 132 [] []:=⟨λw=>Tryz.zeroValue132 w,_,Tryz.underlying132,λw=>by simp []⟩
theorem t_z:b_L Tryz.prog 133 [] []:=⟨λw=>Tryz.zeroValue133 w,_,Tryz.underlying133,λw=>by simp []⟩
theorem t_A:b_L Tryz.prog 134 [] []:=⟨λw=>Tryz.zeroValue134 w,_,Tryz.underlying134,λw=>by simp []⟩
theorem t_B:b_L Tryz.prog 137 [(.slice none 0 0)] [(0,1)]:=⟨λw=>Tryz.zeroValue137 w,_,Tryz.underlying137,λw=>by simp [Tryz.sizeOf27]⟩
theorem t_C:b_L Tryz.prog 138 [] []:=⟨λw=>Tryz.zeroValue138 w,_,Tryz.underlying138,λw=>by simp []⟩
theorem t_D:b_L Tryz.prog 140 [] []:=⟨λw=>Tryz.zeroValue140 w,_,Tryz.underlying140,λw=>by simp []⟩
theorem t_E:b_L Tryz.prog 141 [] []:=⟨λw=>Tryz.zeroValue141 w,_,Tryz.underlying141,λw=>by simp []⟩
theorem t_F:b_L Tryz.prog 185 [] []:=⟨λw=>Tryz.zeroValue185 w,_,Tryz.underlying185,λw=>by simp []⟩
theorem t_G:b_L Tryz.prog 191 [(.slice none 0 0),.slice none 0 0,(.int .i64 0)] [(0,1),(1,1),(2,1)]:=⟨λw=>Tryz.zeroValue191 w,_,Tryz.underlying191,λw=>by simp [Tryz.sizeOf25,Tryz.sizeOf3,Tryz.sizeOf31]⟩
theorem d_0:b_L Tryz.prog 193 [(.int .i64 0),(.int .i64 0)] [(0,1),(1,1)]:=⟨λw=>Tryz.zeroValue193 w,_,Tryz.underlying193,λw=>by simp [Tryz.sizeOf3]⟩
theorem g_x:b_L Tryz.prog 46 [(Str.v ⟨[]⟩),.int .i64 0,.int .i64 0,(.int .i64 0)] [(0,1),(1,1),(2,1),(3,1)]:=⟨λw=>Tryz.zeroValue46 w,_,Tryz.underlying46,λw=>by simp [Tryz.sizeOf3,Tryz.sizeOf9]⟩
theorem a_4:b_L Tryz.prog 50 [(.int .i64 0),.slice none 0 0,(.slice none 0 0)] [(0,1),(1,1),(2,1)]:=⟨λw=>Tryz.zeroValue50 w,_,Tryz.underlying50,λw=>by simp [Tryz.sizeOf25,Tryz.sizeOf3,Tryz.sizeOf48]⟩
theorem t_H:b_L Tryz.prog 75 [(.slice none 0 0),(.slice none 0 0)] [(0,1),(1,1)]:=⟨λw=>Tryz.zeroValue75 w,_,Tryz.underlying75,λw=>by simp [Tryz.sizeOf25,Tryz.sizeOf31]⟩
theorem t_I:b_L Tryz.prog 84 [(.int .i64 0),(.int .i64 0)] [(0,1),(1,1)]:=⟨λw=>Tryz.zeroValue84 w,_,Tryz.underlying84,λw=>by simp [Tryz.sizeOf3]⟩
theorem k_1:El Tryz.prog 149 4 1 1 (.bool false):=⟨Tryz.underlying149,by kernel_rfl,rfl,by decide,by decide⟩
theorem b_I:El Tryz.prog 25 5 1 1 (.int .u8 0):=⟨Tryz.underlying25,by kernel_rfl,rfl,by decide,by decide⟩
theorem a_w:El Tryz.prog 27 9 1 16 (Str.v ⟨[]⟩):=⟨Tryz.underlying27,by kernel_rfl,rfl,by decide,by decide⟩
theorem el_29:El Tryz.prog 29 68 8 136 (.agg #[(Str.v ⟨[]⟩),.int .i64 0,.int .i64 0,.bool false,.slice none 0 0,.slice none 0 0,.slice none 0 0,(.slice none 0 0)]):=⟨Tryz.underlying29,by kernel_rfl,rfl,by decide,by decide⟩
theorem c_K:El Tryz.prog 42 46 4 40 (.agg #[(Str.v ⟨[]⟩),.int .i64 0,.int .i64 0,(.int .i64 0)]):=⟨Tryz.underlying42,by kernel_rfl,rfl,by decide,by decide⟩
theorem k_2:El Tryz.prog 48 50 3 56 (.agg #[(.int .i64 0),.slice none 0 0,(.slice none 0 0)]):=⟨Tryz.underlying48,by kernel_rfl,rfl,by decide,by decide⟩
theorem l_E:El Tryz.prog 58 3 1 8 (.int .i64 0):=⟨Tryz.underlying58,by kernel_rfl,rfl,by decide,by decide⟩
theorem i_c:Fld Tryz.prog 104 0 0:=⟨_,_,Tryz.underlying104,rfl,rfl,1,λw=>Tryz.sizeOf31 w,by decide⟩
theorem t_J:Fld Tryz.prog 104 1 1:=⟨_,_,Tryz.underlying104,rfl,rfl,1,λw=>Tryz.sizeOf25 w,by decide⟩
theorem i_d:Fld Tryz.prog 104 2 2:=⟨_,_,Tryz.underlying104,rfl,rfl,1,λw=>Tryz.sizeOf42 w,by decide⟩
theorem t_K:Fld Tryz.prog 137 0 0:=⟨_,_,Tryz.underlying137,rfl,rfl,1,λw=>Tryz.sizeOf27 w,by decide⟩
theorem p_4:Fld Tryz.prog 191 0 0:=⟨_,_,Tryz.underlying191,rfl,rfl,1,λw=>Tryz.sizeOf31 w,by decide⟩
theorem e_d:Fld Tryz.prog 191 1 1:=⟨_,_,Tryz.underlying191,rfl,rfl,1,λw=>Tryz.sizeOf25 w,by decide⟩
theorem k_3:Fld Tryz.prog 191 2 2:=⟨_,_,Tryz.underlying191,rfl,rfl,1,λw=>Tryz.sizeOf3 w,by decide⟩
theorem d_j:Fld Tryz.prog 193 0 0:=⟨_,_,Tryz.underlying193,rfl,rfl,1,λw=>Tryz.sizeOf3 w,by decide⟩
theorem d_I:Fld Tryz.prog 193 1 1:=⟨_,_,Tryz.underlying193,rfl,rfl,1,λw=>Tryz.sizeOf3 w,by decide⟩
theorem p_5:Fld Tryz.prog 24 0 0:=⟨_,_,Tryz.underlying24,rfl,rfl,1,λw=>Tryz.sizeOf22 w,by decide⟩
theorem a_i:Fld Tryz.prog 31 0 0:=⟨_,_,Tryz.underlying31,rfl,rfl,1,λw=>Tryz.sizeOf29 w,by decide⟩
theorem i_e:Fld Tryz.prog 46 0 0:=⟨_,_,Tryz.underlying46,rfl,rfl,1,λw=>Tryz.sizeOf9 w,by decide⟩
theorem k_4:Fld Tryz.prog 46 1 1:=⟨_,_,Tryz.underlying46,rfl,rfl,1,λw=>Tryz.sizeOf3 w,by decide⟩
theorem p_6:Fld Tryz.prog 46 2 2:=⟨_,_,Tryz.underlying46,rfl,rfl,1,λw=>Tryz.sizeOf3 w,by decide⟩
theorem f_46_3:Fld Tryz.prog 46 3 3:=⟨_,_,Tryz.underlying46,rfl,rfl,1,λw=>Tryz.sizeOf3 w,by decide⟩
theorem b_u:Fld Tryz.prog 50 0 0:=⟨_,_,Tryz.underlying50,rfl,rfl,1,λw=>Tryz.sizeOf3 w,by decide⟩
theorem c_u:Fld Tryz.prog 50 1 1:=⟨_,_,Tryz.underlying50,rfl,rfl,1,λw=>Tryz.sizeOf25 w,by decide⟩
theorem a_y:Fld Tryz.prog 50 2 2:=⟨_,_,Tryz.underlying50,rfl,rfl,1,λw=>Tryz.sizeOf48 w,by decide⟩
theorem p_7:Fld Tryz.prog 60 0 0:=⟨_,_,Tryz.underlying60,rfl,rfl,1,λw=>Tryz.sizeOf9 w,by decide⟩
theorem f_60_1:Fld Tryz.prog 60 1 1:=⟨_,_,Tryz.underlying60,rfl,rfl,1,λw=>Tryz.sizeOf3 w,by decide⟩
theorem f_60_2:Fld Tryz.prog 60 2 2:=⟨_,_,Tryz.underlying60,rfl,rfl,1,λw=>Tryz.sizeOf3 w,by decide⟩
theorem f_60_3:Fld Tryz.prog 60 3 3:=⟨_,_,Tryz.underlying60,rfl,rfl,1,λw=>Tryz.sizeOf4 w,by decide⟩
theorem p_8:Fld Tryz.prog 60 4 4:=⟨_,_,Tryz.underlying60,rfl,rfl,1,λw=>Tryz.sizeOf25 w,by decide⟩
theorem p_9:Fld Tryz.prog 60 5 5:=⟨_,_,Tryz.underlying60,rfl,rfl,1,λw=>Tryz.sizeOf27 w,by decide⟩
theorem p_a:Fld Tryz.prog 60 6 6:=⟨_,_,Tryz.underlying60,rfl,rfl,1,λw=>Tryz.sizeOf58 w,by decide⟩
theorem p_b:Fld Tryz.prog 60 7 7:=⟨_,_,Tryz.underlying60,rfl,rfl,1,λw=>Tryz.sizeOf58 w,by decide⟩
theorem d_J:Fld Tryz.prog 68 0 0:=⟨_,_,Tryz.underlying68,rfl,rfl,1,λw=>Tryz.sizeOf9 w,by decide⟩
theorem a_o:Fld Tryz.prog 68 1 1:=⟨_,_,Tryz.underlying68,rfl,rfl,1,λw=>Tryz.sizeOf3 w,by decide⟩
theorem a_H:Fld Tryz.prog 68 2 2:=⟨_,_,Tryz.underlying68,rfl,rfl,1,λw=>Tryz.sizeOf3 w,by decide⟩
theorem d_k:Fld Tryz.prog 68 3 3:=⟨_,_,Tryz.underlying68,rfl,rfl,1,λw=>Tryz.sizeOf4 w,by decide⟩
theorem b_f:Fld Tryz.prog 68 4 4:=⟨_,_,Tryz.underlying68,rfl,rfl,1,λw=>Tryz.sizeOf25 w,by decide⟩
theorem b_R:Fld Tryz.prog 68 5 5:=⟨_,_,Tryz.underlying68,rfl,rfl,1,λw=>Tryz.sizeOf27 w,by decide⟩
theorem b_g:Fld Tryz.prog 68 6 6:=⟨_,_,Tryz.underlying68,rfl,rfl,1,λw=>Tryz.sizeOf58 w,by decide⟩
theorem P_:Fld Tryz.prog 68 7 7:=⟨_,_,Tryz.underlying68,rfl,rfl,1,λw=>Tryz.sizeOf58 w,by decide⟩
theorem p_c:Fld Tryz.prog 75 0 0:=⟨_,_,Tryz.underlying75,rfl,rfl,1,λw=>Tryz.sizeOf31 w,by decide⟩
theorem g_y:Fld Tryz.prog 75 1 1:=⟨_,_,Tryz.underlying75,rfl,rfl,1,λw=>Tryz.sizeOf25 w,by decide⟩
theorem f_84_0:Fld Tryz.prog 84 0 0:=⟨_,_,Tryz.underlying84,rfl,rfl,1,λw=>Tryz.sizeOf3 w,by decide⟩
theorem f_84_1:Fld Tryz.prog 84 1 1:=⟨_,_,Tryz.underlying84,rfl,rfl,1,λw=>Tryz.sizeOf3 w,by decide⟩
abbrev z_132:=@Tryz.sizeOf132
abbrev z_133:=@Tryz.sizeOf133
abbrev z_134:=@Tryz.sizeOf134
abbrev z_137:=@Tryz.sizeOf137
abbrev z_138:=@Tryz.sizeOf138
abbrev z_140:=@Tryz.sizeOf140
abbrev z_141:=@Tryz.sizeOf141
abbrev F_:=@Tryz.sizeOf193
abbrev z_24:=@Tryz.sizeOf24
abbrev z_25:=@Tryz.sizeOf25
abbrev c_L:=@Tryz.sizeOf27
abbrev z_29:=@Tryz.sizeOf29
abbrev z_3:=@Tryz.sizeOf3
abbrev v_:=@Tryz.sizeOf31
abbrev z_4:=@Tryz.sizeOf4
abbrev z_42:=@Tryz.sizeOf42
abbrev b_6:=@Tryz.sizeOf46
abbrev z_48:=@Tryz.sizeOf48
abbrev z_5:=@Tryz.sizeOf5
abbrev h_:=@Tryz.sizeOf50
abbrev z_58:=@Tryz.sizeOf58
abbrev z_60:=@Tryz.sizeOf60
abbrev m_:=@Tryz.sizeOf68
abbrev z_9:=@Tryz.sizeOf9
abbrev d_132:=@Tryz.underlying132
abbrev d_133:=@Tryz.underlying133
abbrev d_134:=@Tryz.underlying134
abbrev d_137:=@Tryz.underlying137
abbrev d_138:=@Tryz.underlying138
abbrev d_140:=@Tryz.underlying140
abbrev d_141:=@Tryz.underlying141
abbrev b_7:=@Tryz.underlying149
abbrev k_5:=@Tryz.underlying164
abbrev d_185:=@Tryz.underlying185
abbrev e_V:=@Tryz.underlying22
abbrev o_:=@Tryz.underlying25
abbrev D_:=@Tryz.underlying27
abbrev V_:=@Tryz.underlying29
abbrev d_3:=@Tryz.underlying3
abbrev d_4:=@Tryz.underlying4
abbrev c_v:=@Tryz.underlying42
abbrev a_N:=@Tryz.underlying48
abbrev d_5:=@Tryz.underlying5
abbrev x_:=@Tryz.underlying58
abbrev e_e:=@Tryz.underlying77
abbrev d_80:=@Tryz.underlying80
abbrev d_82:=@Tryz.underlying82
abbrev d_9:=@Tryz.underlying9
theorem t_L (w:World):(zeroValue 132).run Tryz.prog w = .ok (.agg #[]) w:=Tryz.zeroValue132 w
theorem t_M (w:World):(zeroValue 133).run Tryz.prog w = .ok (.agg #[]) w:=Tryz.zeroValue133 w
theorem t_N (w:World):(zeroValue 134).run Tryz.prog w = .ok (.agg #[]) w:=Tryz.zeroValue134 w
theorem t_O (w:World):(zeroValue 137).run Tryz.prog w = .ok (.agg #[(.slice none 0 0)]) w:=Tryz.zeroValue137 w
theorem t_P (w:World):(zeroValue 138).run Tryz.prog w = .ok (.agg #[]) w:=Tryz.zeroValue138 w
theorem t_Q (w:World):(zeroValue 140).run Tryz.prog w = .ok (.agg #[]) w:=Tryz.zeroValue140 w
theorem t_R (w:World):(zeroValue 141).run Tryz.prog w = .ok (.agg #[]) w:=Tryz.zeroValue141 w
theorem b_J (w:World):(zeroValue 193).run Tryz.prog w = .ok (.agg #[(.int .i64 0),(.int .i64 0)]) w:=Tryz.zeroValue193 w
theorem k_6 (w:World):(zeroValue 27).run Tryz.prog w = .ok (.slice none 0 0) w:=Tryz.zeroValue27 w
theorem l_F (w:World):(zeroValue 31).run Tryz.prog w = .ok (.agg #[(.slice none 0 0)]) w:=Tryz.zeroValue31 w
theorem p_d (w:World):(zeroValue 4).run Tryz.prog w = .ok (.bool false) w:=Tryz.zeroValue4 w
theorem i_f (w:World):(zeroValue 46).run Tryz.prog w = .ok (.agg #[(Str.v ⟨[]⟩),.int .i64 0,.int .i64 0,(.int .i64 0)]) w:=Tryz.zeroValue46 w
theorem a_f (w:World):(zeroValue 50).run Tryz.prog w = .ok (.agg #[(.int .i64 0),.slice none 0 0,(.slice none 0 0)]) w:=Tryz.zeroValue50 w
theorem b_S (w:World):(zeroValue 68).run Tryz.prog w = .ok (.agg #[(Str.v ⟨[]⟩),.int .i64 0,.int .i64 0,.bool false,.slice none 0 0,.slice none 0 0,.slice none 0 0,(.slice none 0 0)]) w:=Tryz.zeroValue68 w
theorem t_S (w:World):(zeroValue 80).run Tryz.prog w = .ok (.pointer none) w:=Tryz.zeroValue80 w
end Go.Vw
