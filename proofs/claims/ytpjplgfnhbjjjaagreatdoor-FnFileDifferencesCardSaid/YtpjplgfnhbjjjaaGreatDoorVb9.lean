import Derived.Test.YtpjplgfnhbjjjaaGreatDoorV0
import Derived.WalkKit
import Derived.LaidEql
import Derived.Stop.Asserts
import Derived.RowKitTokens
import Derived.Test.YtpjplgfnhbjjjaaGreatDoorShelf
set_option linter.unusedVariables false
namespace Go.Vw
open Go.RowKit Dat Go.Proofs
theorem mo:Tryz.prog.follows .mixedOrders=true:=by kernel_rfl
def shV (s:Value):Nat->Value
  | 1=>.iface 167<|.agg #[]
  | 2=>.iface 168<|.agg #[]
  | 5=>.iface 169<|.agg #[]
  | 6=>.iface 172<|.agg #[s]
  | 7=>.iface 173<|.agg #[]
  | 8=>.iface 175<|.agg #[]
  | 9=>.iface 176<|.agg #[]
  | 10=>.nilIface
  | _=>.iface 202<|.agg #[]
theorem ta_167 {X:Nat->Prop}{N:Nat}{e:Env}{w:World}{dst:Option Tmp}{ty S:TypeId}{pos:String}{aft:Array Edge}{gd:Option (Nat×Bool)}{x:Operand}{s:Value}{k:Nat}(hx:ev e x=some (shV s k))(h:(k==1)=true):Rd X Tryz.prog N ⟨dst,.typeAssert x S 167 true,ty,pos,aft,gd⟩ e w (.tuple #[.agg #[],.bool true]):=λa ha w' _=>by
  obtain rfl:k=1:=by simpa using h
  simp [execOp,ha.ev hx,shV,Instr.typeAssert,run_underlying Tryz.underlying167]
theorem t_K {X:Nat->Prop}{N:Nat}{e:Env}{w:World}{dst:Option Tmp}{ty S:TypeId}{pos:String}{aft:Array Edge}{gd:Option (Nat×Bool)}{x:Operand}{s:Value}{k:Nat}(hx:ev e x=some (shV s k))(h:(k==1)=false):Rd X Tryz.prog N ⟨dst,.typeAssert x S 167 true,ty,pos,aft,gd⟩ e w (.tuple #[.agg #[],.bool false]):=λa ha w' _=>by
  have hk:k ≠ 1:=by simpa using h
  have hz:=Tryz.zeroValue167 w'
  simp only [execOp,ha.ev hx]
  unfold shV
  split <;> simp_all [Instr.typeAssert,run_underlying Tryz.underlying167]
theorem ta_168 {X:Nat->Prop}{N:Nat}{e:Env}{w:World}{dst:Option Tmp}{ty S:TypeId}{pos:String}{aft:Array Edge}{gd:Option (Nat×Bool)}{x:Operand}{s:Value}{k:Nat}(hx:ev e x=some (shV s k))(h:(k==2)=true):Rd X Tryz.prog N ⟨dst,.typeAssert x S 168 true,ty,pos,aft,gd⟩ e w (.tuple #[.agg #[],.bool true]):=λa ha w' _=>by
  obtain rfl:k=2:=by simpa using h
  simp [execOp,ha.ev hx,shV,Instr.typeAssert,run_underlying Tryz.underlying168]
theorem t_L {X:Nat->Prop}{N:Nat}{e:Env}{w:World}{dst:Option Tmp}{ty S:TypeId}{pos:String}{aft:Array Edge}{gd:Option (Nat×Bool)}{x:Operand}{s:Value}{k:Nat}(hx:ev e x=some (shV s k))(h:(k==2)=false):Rd X Tryz.prog N ⟨dst,.typeAssert x S 168 true,ty,pos,aft,gd⟩ e w (.tuple #[.agg #[],.bool false]):=λa ha w' _=>by
  have hk:k ≠ 2:=by simpa using h
  have hz:=Tryz.zeroValue168 w'
  simp only [execOp,ha.ev hx]
  unfold shV
  split <;> simp_all [Instr.typeAssert,run_underlying Tryz.underlying168]
theorem ta_169 {X:Nat->Prop}{N:Nat}{e:Env}{w:World}{dst:Option Tmp}{ty S:TypeId}{pos:String}{aft:Array Edge}{gd:Option (Nat×Bool)}{x:Operand}{s:Value}{k:Nat}(hx:ev e x=some (shV s k))(h:(k==5)=true):Rd X Tryz.prog N ⟨dst,.typeAssert x S 169 true,ty,pos,aft,gd⟩ e w (.tuple #[.agg #[],.bool true]):=λa ha w' _=>by
  obtain rfl:k=5:=by simpa using h
  simp [execOp,ha.ev hx,shV,Instr.typeAssert,run_underlying Tryz.underlying169]
theorem t_M {X:Nat->Prop}{N:Nat}{e:Env}{w:World}{dst:Option Tmp}{ty S:TypeId}{pos:String}{aft:Array Edge}{gd:Option (Nat×Bool)}{x:Operand}{s:Value}{k:Nat}(hx:ev e x=some (shV s k))(h:(k==5)=false):Rd X Tryz.prog N ⟨dst,.typeAssert x S 169 true,ty,pos,aft,gd⟩ e w (.tuple #[.agg #[],.bool false]):=λa ha w' _=>by
  have hk:k ≠ 5:=by simpa using h
  have hz:=Tryz.zeroValue169 w'
  simp only [execOp,ha.ev hx]
  unfold shV
  split <;> simp_all [Instr.typeAssert,run_underlying Tryz.underlying169]
theorem ta_172 {X:Nat->Prop}{N:Nat}{e:Env}{w:World}{dst:Option Tmp}{ty S:TypeId}{pos:String}{aft:Array Edge}{gd:Option (Nat×Bool)}{x:Operand}{s:Value}{k:Nat}(hx:ev e x=some (shV s k))(h:(k==6)=true):Rd X Tryz.prog N ⟨dst,.typeAssert x S 172 true,ty,pos,aft,gd⟩ e w (.tuple #[.agg #[s],.bool true]):=λa ha w' _=>by
  obtain rfl:k=6:=by simpa using h
  simp [execOp,ha.ev hx,shV,Instr.typeAssert,run_underlying Tryz.underlying172]
theorem t_N {X:Nat->Prop}{N:Nat}{e:Env}{w:World}{dst:Option Tmp}{ty S:TypeId}{pos:String}{aft:Array Edge}{gd:Option (Nat×Bool)}{x:Operand}{s:Value}{k:Nat}(hx:ev e x=some (shV s k))(h:(k==6)=false):Rd X Tryz.prog N ⟨dst,.typeAssert x S 172 true,ty,pos,aft,gd⟩ e w (.tuple #[.agg #[.slice none 0 0],.bool false]):=λa ha w' _=>by
  have hk:k ≠ 6:=by simpa using h
  have hz:=Tryz.zeroValue172 w'
  simp only [execOp,ha.ev hx]
  unfold shV
  split <;> simp_all [Instr.typeAssert,run_underlying Tryz.underlying172]
theorem ta_173 {X:Nat->Prop}{N:Nat}{e:Env}{w:World}{dst:Option Tmp}{ty S:TypeId}{pos:String}{aft:Array Edge}{gd:Option (Nat×Bool)}{x:Operand}{s:Value}{k:Nat}(hx:ev e x=some (shV s k))(h:(k==7)=true):Rd X Tryz.prog N ⟨dst,.typeAssert x S 173 true,ty,pos,aft,gd⟩ e w (.tuple #[.agg #[],.bool true]):=λa ha w' _=>by
  obtain rfl:k=7:=by simpa using h
  simp [execOp,ha.ev hx,shV,Instr.typeAssert,run_underlying Tryz.underlying173]
theorem t_O {X:Nat->Prop}{N:Nat}{e:Env}{w:World}{dst:Option Tmp}{ty S:TypeId}{pos:String}{aft:Array Edge}{gd:Option (Nat×Bool)}{x:Operand}{s:Value}{k:Nat}(hx:ev e x=some (shV s k))(h:(k==7)=false):Rd X Tryz.prog N ⟨dst,.typeAssert x S 173 true,ty,pos,aft,gd⟩ e w (.tuple #[.agg #[],.bool false]):=λa ha w' _=>by
  have hk:k ≠ 7:=by simpa using h
  have hz:=Tryz.zeroValue173 w'
  simp only [execOp,ha.ev hx]
  unfold shV
  split <;> simp_all [Instr.typeAssert,run_underlying Tryz.underlying173]
theorem ta_175 {X:Nat->Prop}{N:Nat}{e:Env}{w:World}{dst:Option Tmp}{ty S:TypeId}{pos:String}{aft:Array Edge}{gd:Option (Nat×Bool)}{x:Operand}{s:Value}{k:Nat}(hx:ev e x=some (shV s k))(h:(k==8)=true):Rd X Tryz.prog N ⟨dst,.typeAssert x S 175 true,ty,pos,aft,gd⟩ e w (.tuple #[.agg #[],.bool true]):=λa ha w' _=>by
  obtain rfl:k=8:=by simpa using h
  simp [execOp,ha.ev hx,shV,Instr.typeAssert,run_underlying Tryz.underlying175]
theorem t_P {X:Nat->Prop}{N:Nat}{e:Env}{w:World}{dst:Option Tmp}{ty S:TypeId}{pos:String}{aft:Array Edge}{gd:Option (Nat×Bool)}{x:Operand}{s:Value}{k:Nat}(hx:ev e x=some (shV s k))(h:(k==8)=false):Rd X Tryz.prog N ⟨dst,.typeAssert x S 175 true,ty,pos,aft,gd⟩ e w (.tuple #[.agg #[],.bool false]):=λa ha w' _=>by
  have hk:k ≠ 8:=by simpa using h
  have hz:=Tryz.zeroValue175 w'
  simp only [execOp,ha.ev hx]
  unfold shV
  split <;> simp_all [Instr.typeAssert,run_underlying Tryz.underlying175]
theorem ta_176 {X:Nat->Prop}{N:Nat}{e:Env}{w:World}{dst:Option Tmp}{ty S:TypeId}{pos:String}{aft:Array Edge}{gd:Option (Nat×Bool)}{x:Operand}{s:Value}{k:Nat}(hx:ev e x=some (shV s k))(h:(k==9)=true):Rd X Tryz.prog N ⟨dst,.typeAssert x S 176 true,ty,pos,aft,gd⟩ e w (.tuple #[.agg #[],.bool true]):=λa ha w' _=>by
  obtain rfl:k=9:=by simpa using h
  simp [execOp,ha.ev hx,shV,Instr.typeAssert,run_underlying Tryz.underlying176]
theorem t_Q {X:Nat->Prop}{N:Nat}{e:Env}{w:World}{dst:Option Tmp}{ty S:TypeId}{pos:String}{aft:Array Edge}{gd:Option (Nat×Bool)}{x:Operand}{s:Value}{k:Nat}(hx:ev e x=some (shV s k))(h:(k==9)=false):Rd X Tryz.prog N ⟨dst,.typeAssert x S 176 true,ty,pos,aft,gd⟩ e w (.tuple #[.agg #[],.bool false]):=λa ha w' _=>by
  have hk:k ≠ 9:=by simpa using h
  have hz:=Tryz.zeroValue176 w'
  simp only [execOp,ha.ev hx]
  unfold shV
  split <;> simp_all [Instr.typeAssert,run_underlying Tryz.underlying176]
abbrev g_119:=@Tryz.isAgg119
abbrev g_137:=@Tryz.isAgg137
abbrev P_:=@Tryz.isAgg22
abbrev U_:=@Tryz.isAgg24
abbrev h_:=@Tryz.isAgg26
abbrev b_n:=@Tryz.isAgg29
abbrev g_3:=@Tryz.isAgg3
abbrev B_:=@Tryz.isAgg32
abbrev e_:=@Tryz.isAgg34
abbrev g_4:=@Tryz.isAgg4
abbrev g_5:=@Tryz.isAgg5
abbrev g_55:=@Tryz.isAgg55
abbrev E_:=@Tryz.isAgg72
abbrev I_:=@Tryz.isAgg74
abbrev g_79:=@Tryz.isAgg79
abbrev g_E:=@Tryz.isAgg83
abbrev g_9:=@Tryz.isAgg9
theorem t_R:b_x Tryz.prog 114 [(.slice none 0 0),(.slice none 0 0)] [(0,1),(1,1)]:=⟨λw=>Tryz.zeroValue114 w,_,Tryz.underlying114,λw=>by simp [Tryz.sizeOf22,Tryz.sizeOf26]⟩
theorem t_S:b_x Tryz.prog 123 [(.int .i64 0),(.int .i64 0)] [(0,1),(1,1)]:=⟨λw=>Tryz.zeroValue123 w,_,Tryz.underlying123,λw=>by simp [Tryz.sizeOf3]⟩
theorem t_T:b_x Tryz.prog 167 [] []:=⟨λw=>Tryz.zeroValue167 w,_,Tryz.underlying167,λw=>by simp []⟩
theorem t_U:b_x Tryz.prog 168 [] []:=⟨λw=>Tryz.zeroValue168 w,_,Tryz.underlying168,λw=>by simp []⟩
theorem t_V:b_x Tryz.prog 169 [] []:=⟨λw=>Tryz.zeroValue169 w,_,Tryz.underlying169,λw=>by simp []⟩
theorem t_W:b_x Tryz.prog 172 [(.slice none 0 0)] [(0,1)]:=⟨λw=>Tryz.zeroValue172 w,_,Tryz.underlying172,λw=>by simp [Tryz.sizeOf29]⟩
theorem t_X:b_x Tryz.prog 173 [] []:=⟨λw=>Tryz.zeroValue173 w,_,Tryz.underlying173,λw=>by simp []⟩
theorem t_Y:b_x Tryz.prog 175 [] []:=⟨λw=>Tryz.zeroValue175 w,_,Tryz.underlying175,λw=>by simp []⟩
theorem t_Z:b_x Tryz.prog 176 [] []:=⟨λw=>Tryz.zeroValue176 w,_,Tryz.underlying176,λw=>by simp []⟩
theorem u_0:b_x Tryz.prog 202 [] []:=⟨λw=>Tryz.zeroValue202 w,_,Tryz.underlying202,λw=>by simp []⟩
theorem u_1:b_x Tryz.prog 26 [(.slice none 0 0)] [(0,1)]:=⟨λw=>Tryz.zeroValue26 w,_,Tryz.underlying26,λw=>by simp [Tryz.sizeOf24]⟩
theorem K_:b_x Tryz.prog 34 [(.int .i64 0),.slice none 0 0,(.slice none 0 0)] [(0,1),(1,1),(2,1)]:=⟨λw=>Tryz.zeroValue34 w,_,Tryz.underlying34,λw=>by simp [Tryz.sizeOf22,Tryz.sizeOf3,Tryz.sizeOf32]⟩
theorem i_P:b_x Tryz.prog 55 [(Str.v ⟨[]⟩),.int .i64 0,.slice none 0 0,(.slice none 0 0)] [(0,1),(1,3)]:=⟨λw=>Tryz.zeroValue55 w,_,Tryz.underlying55,λw=>by simp [Tryz.sizeOf34,Tryz.sizeOf9]⟩
theorem u_2:b_x Tryz.prog 65 [(.slice none 0 0),.int .i64 0,(.int .i64 0)] [(0,1),(1,1),(2,1)]:=⟨λw=>Tryz.zeroValue65 w,_,Tryz.underlying65,λw=>by simp [Tryz.sizeOf22,Tryz.sizeOf3]⟩
theorem u_3:b_x Tryz.prog 74 [(Str.v ⟨[]⟩),.int .i64 0,.int .i64 0,.bool false,.slice none 0 0,.slice none 0 0,.slice none 0 0,(.slice none 0 0)] [(0,1),(1,1),(2,1),(3,1),(4,1),(5,1),(6,1),(7,1)]:=⟨λw=>Tryz.zeroValue74 w,_,Tryz.underlying74,λw=>by simp [Tryz.sizeOf22,Tryz.sizeOf29,Tryz.sizeOf3,Tryz.sizeOf4,Tryz.sizeOf72,Tryz.sizeOf9]⟩
theorem u_4:b_x Tryz.prog 81 [(.slice none 0 0),(.map none)] [(0,1),(1,1)]:=⟨λw=>Tryz.zeroValue81 w,_,Tryz.underlying81,λw=>by simp [Tryz.sizeOf26,Tryz.sizeOf79]⟩
theorem p_d:b_x Tryz.prog 85 [(.int .i64 0)] [(0,1)]:=⟨λw=>Tryz.zeroValue85 w,_,Tryz.underlying85,λw=>by simp [Tryz.sizeOf3]⟩
theorem G_:El Tryz.prog 22 5 1 1 (.int .u8 0):=⟨Tryz.underlying22,by kernel_rfl,rfl,by decide,by decide⟩
theorem h_K:El Tryz.prog 24 74 8 136 (.agg #[(Str.v ⟨[]⟩),.int .i64 0,.int .i64 0,.bool false,.slice none 0 0,.slice none 0 0,.slice none 0 0,(.slice none 0 0)]):=⟨Tryz.underlying24,by kernel_rfl,rfl,by decide,by decide⟩
theorem a_E:El Tryz.prog 29 9 1 16 (Str.v ⟨[]⟩):=⟨Tryz.underlying29,by kernel_rfl,rfl,by decide,by decide⟩
theorem b_7:El Tryz.prog 32 34 3 56 (.agg #[(.int .i64 0),.slice none 0 0,(.slice none 0 0)]):=⟨Tryz.underlying32,by kernel_rfl,rfl,by decide,by decide⟩
theorem c_j:El Tryz.prog 37 55 4 72 (.agg #[(Str.v ⟨[]⟩),.int .i64 0,.slice none 0 0,(.slice none 0 0)]):=⟨Tryz.underlying37,by kernel_rfl,rfl,by decide,by decide⟩
theorem b_Q:El Tryz.prog 72 3 1 8 (.int .i64 0):=⟨Tryz.underlying72,by kernel_rfl,rfl,by decide,by decide⟩
theorem p_e:Fld Tryz.prog 114 0 0:=⟨_,_,Tryz.underlying114,rfl,rfl,1,λw=>Tryz.sizeOf26 w,by decide⟩
theorem h_L:Fld Tryz.prog 114 1 1:=⟨_,_,Tryz.underlying114,rfl,rfl,1,λw=>Tryz.sizeOf22 w,by decide⟩
theorem u_5:Fld Tryz.prog 123 0 0:=⟨_,_,Tryz.underlying123,rfl,rfl,1,λw=>Tryz.sizeOf3 w,by decide⟩
theorem u_6:Fld Tryz.prog 123 1 1:=⟨_,_,Tryz.underlying123,rfl,rfl,1,λw=>Tryz.sizeOf3 w,by decide⟩
theorem u_7:Fld Tryz.prog 172 0 0:=⟨_,_,Tryz.underlying172,rfl,rfl,1,λw=>Tryz.sizeOf29 w,by decide⟩
theorem Q_:Fld Tryz.prog 26 0 0:=⟨_,_,Tryz.underlying26,rfl,rfl,1,λw=>Tryz.sizeOf24 w,by decide⟩
theorem a_x:Fld Tryz.prog 34 0 0:=⟨_,_,Tryz.underlying34,rfl,rfl,1,λw=>Tryz.sizeOf3 w,by decide⟩
theorem a_r:Fld Tryz.prog 34 1 1:=⟨_,_,Tryz.underlying34,rfl,rfl,1,λw=>Tryz.sizeOf22 w,by decide⟩
theorem w_:Fld Tryz.prog 34 2 2:=⟨_,_,Tryz.underlying34,rfl,rfl,1,λw=>Tryz.sizeOf32 w,by decide⟩
theorem f_B:Fld Tryz.prog 55 0 0:=⟨_,_,Tryz.underlying55,rfl,rfl,1,λw=>Tryz.sizeOf9 w,by decide⟩
theorem i_Q:Fld Tryz.prog 55 1 1:=⟨_,_,Tryz.underlying55,rfl,rfl,3,λw=>Tryz.sizeOf34 w,by decide⟩
theorem p_f:Fld Tryz.prog 65 0 0:=⟨_,_,Tryz.underlying65,rfl,rfl,1,λw=>Tryz.sizeOf22 w,by decide⟩
theorem k_B:Fld Tryz.prog 65 1 1:=⟨_,_,Tryz.underlying65,rfl,rfl,1,λw=>Tryz.sizeOf3 w,by decide⟩
theorem k_C:Fld Tryz.prog 65 2 2:=⟨_,_,Tryz.underlying65,rfl,rfl,1,λw=>Tryz.sizeOf3 w,by decide⟩
theorem h_M:Fld Tryz.prog 74 0 0:=⟨_,_,Tryz.underlying74,rfl,rfl,1,λw=>Tryz.sizeOf9 w,by decide⟩
theorem a_F:Fld Tryz.prog 74 1 1:=⟨_,_,Tryz.underlying74,rfl,rfl,1,λw=>Tryz.sizeOf3 w,by decide⟩
theorem a_P:Fld Tryz.prog 74 2 2:=⟨_,_,Tryz.underlying74,rfl,rfl,1,λw=>Tryz.sizeOf3 w,by decide⟩
theorem e_Q:Fld Tryz.prog 74 3 3:=⟨_,_,Tryz.underlying74,rfl,rfl,1,λw=>Tryz.sizeOf4 w,by decide⟩
theorem b_s:Fld Tryz.prog 74 4 4:=⟨_,_,Tryz.underlying74,rfl,rfl,1,λw=>Tryz.sizeOf22 w,by decide⟩
theorem c_z:Fld Tryz.prog 74 5 5:=⟨_,_,Tryz.underlying74,rfl,rfl,1,λw=>Tryz.sizeOf29 w,by decide⟩
theorem b_o:Fld Tryz.prog 74 6 6:=⟨_,_,Tryz.underlying74,rfl,rfl,1,λw=>Tryz.sizeOf72 w,by decide⟩
theorem R_:Fld Tryz.prog 74 7 7:=⟨_,_,Tryz.underlying74,rfl,rfl,1,λw=>Tryz.sizeOf72 w,by decide⟩
theorem p_g:Fld Tryz.prog 81 0 0:=⟨_,_,Tryz.underlying81,rfl,rfl,1,λw=>Tryz.sizeOf26 w,by decide⟩
theorem k_D:Fld Tryz.prog 81 1 1:=⟨_,_,Tryz.underlying81,rfl,rfl,1,λw=>Tryz.sizeOf79 w,by decide⟩
theorem p_h:g_k Tryz.prog 79:=r_0 Tryz.underlying79 (by kernel_rfl) Tryz.underlying85 Tryz.underlying3 rfl (by kernel_rfl) (by kernel_rfl) (Nat.le_of_ble_eq_true (by kernel_rfl)) (by kernel_rfl) (by kernel_rfl) rfl (m:=260) (by kernel_rfl)
abbrev z_167:=@Tryz.sizeOf167
abbrev z_168:=@Tryz.sizeOf168
abbrev z_169:=@Tryz.sizeOf169
abbrev z_172:=@Tryz.sizeOf172
abbrev z_173:=@Tryz.sizeOf173
abbrev z_175:=@Tryz.sizeOf175
abbrev z_176:=@Tryz.sizeOf176
abbrev z_22:=@Tryz.sizeOf22
abbrev z_24:=@Tryz.sizeOf24
abbrev f_:=@Tryz.sizeOf26
abbrev g_F:=@Tryz.sizeOf29
abbrev z_3:=@Tryz.sizeOf3
abbrev d_O:=@Tryz.sizeOf32
abbrev b_:=@Tryz.sizeOf34
abbrev z_4:=@Tryz.sizeOf4
abbrev z_5:=@Tryz.sizeOf5
abbrev c_k:=@Tryz.sizeOf55
abbrev g_G:=@Tryz.sizeOf72
abbrev o_:=@Tryz.sizeOf74
abbrev z_9:=@Tryz.sizeOf9
abbrev e_R:=@Tryz.underlying116
abbrev d_119:=@Tryz.underlying119
abbrev d_121:=@Tryz.underlying121
abbrev d_167:=@Tryz.underlying167
abbrev d_168:=@Tryz.underlying168
abbrev d_169:=@Tryz.underlying169
abbrev d_172:=@Tryz.underlying172
abbrev d_173:=@Tryz.underlying173
abbrev d_175:=@Tryz.underlying175
abbrev d_176:=@Tryz.underlying176
abbrev d_202:=@Tryz.underlying202
abbrev q_:=@Tryz.underlying22
abbrev Y_:=@Tryz.underlying24
abbrev a_2:=@Tryz.underlying29
abbrev d_3:=@Tryz.underlying3
abbrev H_:=@Tryz.underlying32
abbrev b_R:=@Tryz.underlying37
abbrev d_4:=@Tryz.underlying4
abbrev d_5:=@Tryz.underlying5
abbrev A_:=@Tryz.underlying72
abbrev d_79:=@Tryz.underlying79
abbrev d_83:=@Tryz.underlying83
abbrev d_9:=@Tryz.underlying9
theorem u_8 (w:World):(zeroValue 119).run Tryz.prog w = .ok (.pointer none) w:=Tryz.zeroValue119 w
theorem u_9 (w:World):(zeroValue 167).run Tryz.prog w = .ok (.agg #[]) w:=Tryz.zeroValue167 w
theorem u_a (w:World):(zeroValue 168).run Tryz.prog w = .ok (.agg #[]) w:=Tryz.zeroValue168 w
theorem u_b (w:World):(zeroValue 169).run Tryz.prog w = .ok (.agg #[]) w:=Tryz.zeroValue169 w
theorem u_c (w:World):(zeroValue 172).run Tryz.prog w = .ok (.agg #[(.slice none 0 0)]) w:=Tryz.zeroValue172 w
theorem u_d (w:World):(zeroValue 173).run Tryz.prog w = .ok (.agg #[]) w:=Tryz.zeroValue173 w
theorem u_e (w:World):(zeroValue 175).run Tryz.prog w = .ok (.agg #[]) w:=Tryz.zeroValue175 w
theorem u_f (w:World):(zeroValue 176).run Tryz.prog w = .ok (.agg #[]) w:=Tryz.zeroValue176 w
theorem c_Z (w:World):(zeroValue 26).run Tryz.prog w = .ok (.agg #[(.slice none 0 0)]) w:=Tryz.zeroValue26 w
theorem p_i (w:World):(zeroValue 29).run Tryz.prog w = .ok (.slice none 0 0) w:=Tryz.zeroValue29 w
theorem v_ (w:World):(zeroValue 34).run Tryz.prog w = .ok (.agg #[(.int .i64 0),.slice none 0 0,(.slice none 0 0)]) w:=Tryz.zeroValue34 w
theorem zero_4 (w:World):(zeroValue 4).run Tryz.prog w = .ok (.bool false) w:=Tryz.zeroValue4 w
theorem m_3 (w:World):(zeroValue 55).run Tryz.prog w = .ok (.agg #[(Str.v ⟨[]⟩),.int .i64 0,.slice none 0 0,(.slice none 0 0)]) w:=Tryz.zeroValue55 w
theorem c_l (w:World):(zeroValue 74).run Tryz.prog w = .ok (.agg #[(Str.v ⟨[]⟩),.int .i64 0,.int .i64 0,.bool false,.slice none 0 0,.slice none 0 0,.slice none 0 0,(.slice none 0 0)]) w:=Tryz.zeroValue74 w
end Go.Vw
namespace Go.Vw
open Go.RowKit Dat Go.Proofs
/-- What the variables hold. -/
def GD (w:World):Prop:=Lib.TabIs Tryz.prog w "internal/strconv.uint64pow10" .u64 Lib.pow10Tab/\w.cell? ⟨0,0,none⟩=some (.iface 189 (.agg #[.pointer (some ⟨5,116,none⟩)]))
abbrev Gl:World->Zone->Prop:=GlW 5 GD
theorem gl_err {w:World}{B:Zone}(h:Gl w B):w.cell? ⟨0,0,none⟩=some (.iface 189<|.agg #[.pointer (some ⟨5,116,none⟩)]):=h.cell (λ_ h=>h.2) (by decide)
theorem gl_tab {w:World}{B:Zone}(h:Gl w B):Lib.TabIs Tryz.prog w "internal/strconv.uint64pow10" .u64 Lib.pow10Tab:=h.tab (λ_ h=>h.1) (by kernel_rfl:Tryz.prog.globalNamed "internal/strconv.uint64pow10" = some 1) (by decide)
def t_j (w0:World)(B:Zone)(r:Str)(v:Value)(w':World):Prop:=Below w0.heap.size w0 w'/\(λr1=>(Str.v r1)=v/\r1.b.length<=LEN) r
theorem t_k {B:Zone}{x1:Int}{res:Str}{w0:World}(hm:j_S x1=some res)(H:B<=w0.heap.size)(hG:Gl w0 B)(G:inI x1):g_ Tryz.prog 145 [vI x1] w0 (t_j w0 B res):=by
  obtain rfl:=som hm;exact (q_G<|Tryz.strconv_Itoa x1 (by unfold inI at G;omega) (by unfold inI at G;omega) w0<|gl_tab hG).mono λv w' h=>⟨h.2,h.1,Nat.le_trans (Lib.itoa_length_le x1 (by unfold inI at G;omega) (by unfold inI at G;omega))<|Nat.le_of_ble_eq_true rfl⟩
def t_l (w0:World)(B:Zone)(r:Str)(v:Value)(w':World):Prop:=Below w0.heap.size w0 w'/\(λr1=>(Str.v r1)=v/\r1.b.length<=LEN) r
theorem t_m {B:Zone}{x1:List Str}{x2:Str}{res:Str}{A0:Option Addr}{N0 C0:Nat}{w0:World}(hm:j_T x1 x2=some res)(H:B<=w0.heap.size)(G:repS w0 B (.slice A0 N0 C0) x1)(I:x2.b.length<=LEN):g_ Tryz.prog 146 [.slice A0 N0 C0,Str.v x2] w0 (t_l w0 B res):=by
  obtain ⟨rfl,hc,hN,h⟩:=q_J G;unfold j_T at hm
  split at hm
  . rename_i hle
    obtain rfl:=som hm
    rcases h with rfl | ⟨b,o,rfl,hb,hcells⟩
    . exact ⟨(Tryz.strings_Join_none A0 C0 ⟨x2.b.toArray⟩ w0).mono λe w' ⟨he,hw⟩=>⟨_,he,hw ▸ f_7 w0,rfl,hle⟩⟩
    . have hj:=Tryz.strings_Join b o C0 (x1.map (λs=>(⟨s.b.toArray⟩:ByteArray))) ⟨x2.b.toArray⟩ w0 hcells (zt' H (Nat.le_refl _) b hb) (by rw [List.length_map];exact hN) (by rw [List.length_map];exact hc) (by
        have:=congrArg (λz:ByteArray=>z.data.size)<|n_w x1 x2
        simp only [List.size_toArray] at this
        rw [this];exact hle)
      rw [n_w,List.length_map] at hj
      exact q_K hj λw' hw=>⟨hw,rfl,hle⟩
  . cases hm
section
open Go.Extern.Stop Go.Stop Go.Extern
/-! ### errors.As at one target type (after the kit's worked example) -/
theorem as_nil (t:Value)(w:World):Calls Tryz.prog 77 #[.nilIface,t] w λe w'=>e = .returned (.bool false)/\w'=w:=by
  go_enter Tryz.func77,Tryz.ntmps77
  go_wp2
  go_ret
  exact ⟨rfl,rfl⟩
theorem t_n (t:Addr)(w:World):(ReflectliteValue.unpack<|.iface 121<|.pointer<|some t).run Tryz.prog w
    = .ok (.agg #[.pointer (some ⟨5,121,none⟩),.pointer<|some ⟨w.heap.size,0,none⟩,.int .u64 150]) (w.alloc<|.cells #[.pointer (some t)] 121):=by kernel_rfl
theorem t_o (a:Addr)(w:World):(ReflectliteValue.methodAny (ReflectliteValue.valueError "reflectlite.Value.Type" 0) (λt _ _ _=>ReflectliteType.toType t) #[.agg #[.pointer (some ⟨5,121,none⟩),.pointer (some a),.int .u64 150]]).run Tryz.prog w
    = .ok (.iface 189<|.agg #[.pointer (some ⟨5,121,none⟩)]) w:=by kernel_rfl
theorem t_p (h:Value)(w:World):(Go.method 361 189 (.agg #[h]) "Kind").run Tryz.prog w = .ok (194,h) w:=by kernel_rfl
theorem t_q (w:World):((ReflectliteType.abiMethod λt=>Functor.map (λa:Nat=>Value.int IntKind.u8 (a:Int))<|Rtype.kind t) #[.pointer (some ⟨5,121,none⟩)]).run Tryz.prog w = .ok (.int .u8 22) w:=by kernel_rfl
theorem t_r (w:World):((ReflectliteType.abiMethod λt=>Functor.map (λa:Nat=>Value.int IntKind.u8 (a:Int))<|Rtype.kind t) #[.pointer (some ⟨5,119,none⟩)]).run Tryz.prog w = .ok (.int .u8 22) w:=by kernel_rfl
theorem p_b (z:Sem Value)(f:TypeId->Addr->Nat->Nat->Sem Value)(v:Value) :
    ReflectliteValue.method z f #[v]=(do match ← ReflectliteValue.parts v with | none=>z | some (t,a,fl)=>f t a fl<|fl % 32):=rfl
theorem p_c (a:Addr)(w:World):(ReflectliteValue.parts<|.agg #[.pointer (some ⟨5,121,none⟩),.pointer<|some a,.int .u64 150]).run Tryz.prog w = .ok (some (121,a,150)) w:=by kernel_rfl
theorem t_s (a p:Addr)(W:World)(ha:W.cell? a=some (.pointer<|some p)) :
    (ReflectliteValue.method (ReflectliteValue.valueError "reflectlite.Value.IsNil" 0) ReflectliteValue.isNil #[.agg #[.pointer (some ⟨5,121,none⟩),.pointer (some a),.int .u64 150]]).run Tryz.prog W = .ok (.bool false) W:=by
  rw [p_b]
  simp only [Sem.run_bind,p_c,Result.andThen]
  simp [ReflectliteValue.isNil,loadVar,isAgg,underlying,Tryz.underlying121,ha,Result.andThen]
theorem t_t (h:Value)(w:World):(Go.method 361 189 (.agg #[h]) "Elem").run Tryz.prog w = .ok (204,.agg #[h]) w:=by kernel_rfl
theorem t_u (h:Value)(w:World):(Go.method 361 189 (.agg #[h]) "Implements").run Tryz.prog w = .ok (205,.agg #[h]) w:=by kernel_rfl
theorem t_v (h:Value)(w:World):(Go.method 361 189 (.agg #[h]) "AssignableTo").run Tryz.prog w = .ok (202,.agg #[h]) w:=by kernel_rfl
theorem t_w (w:World):(ReflectliteType.method ReflectliteType.elem #[.agg #[.pointer (some ⟨5,121,none⟩)]]).run Tryz.prog w = .ok (.iface 189<|.agg #[.pointer (some ⟨5,119,none⟩)]) w:=by kernel_rfl
theorem t_x (w:World):(ReflectliteType.relation "Implements" ReflectliteType.implements_ #[.agg #[.pointer (some ⟨5,119,none⟩)],.iface 189 (.agg #[.pointer (some ⟨5,116,none⟩)])]).run Tryz.prog w = .ok (.bool true) w:=by kernel_rfl
theorem t_y (v:Value)(w:World):(ReflectliteType.typeOf #[.iface 119 v]).run Tryz.prog w = .ok (.iface 189<|.agg #[.pointer (some ⟨5,119,none⟩)]) w:=by kernel_rfl
theorem t_z (w:World):(ReflectliteType.relation "AssignableTo" ReflectliteType.assignableTo #[.agg #[.pointer (some ⟨5,119,none⟩)],.iface 189 (.agg #[.pointer (some ⟨5,119,none⟩)])]).run Tryz.prog w = .ok (.bool true) w:=by kernel_rfl
theorem t_A (e:Addr)(w:World):(ReflectliteValue.unpack<|.iface 119<|.pointer<|some e).run Tryz.prog w
    = .ok (.agg #[.pointer (some ⟨5,119,none⟩),.pointer<|some ⟨w.heap.size,0,none⟩,.int .u64 150]) (w.alloc<|.cells #[.pointer (some e)] 119):=by kernel_rfl
theorem t_B (w:World):(Rtype.elem? 121).run Tryz.prog w = .ok (some 119) w:=by kernel_rfl
theorem t_C (p:Addr)(w:World):(ReflectliteValue.mk 119 p ReflectliteValue.flagAddr).run Tryz.prog w = .ok (.agg #[.pointer (some ⟨5,119,none⟩),.pointer<|some p,.int .u64 406]) w:=by kernel_rfl
theorem t_D (a p:Addr)(W:World)(ha:W.cell? a=some (.pointer<|some p)) :
    (ReflectliteValue.method (ReflectliteValue.valueError "reflectlite.Value.Elem" 0) ReflectliteValue.elem #[.agg #[.pointer (some ⟨5,121,none⟩),.pointer (some a),.int .u64 150]]).run Tryz.prog W
      = .ok (.agg #[.pointer (some ⟨5,119,none⟩),.pointer<|some p,.int .u64 406]) W:=by
  rw [p_b]
  simp only [Sem.run_bind,p_c,Result.andThen]
  simp [ReflectliteValue.elem,loadVar,isAgg,underlying,Tryz.underlying121,ha,Result.andThen,t_B,t_C]
theorem as_rls (v x:Value):ReflectliteValue.set #[v,x]=(do
    let (some (dst,a,fl),some (src,b,_)):=(← ReflectliteValue.parts v,← ReflectliteValue.parts x)
      | unsupported (.noEntry "extern/(internal/reflectlite.Value).Set.zeroValue")
    if fl / ReflectliteValue.flagAddr % 2==0 then unsupported (.noEntry "extern/(internal/reflectlite.Value).Set.unaddressable")
    let val ← loadVar src b
    if ← Rtype.directlyAssignable dst src then storeVar dst a val
    else if ← Rtype.implements dst src then
      if (← Rtype.kind src)==20 then
        match val with
        | .nilIface=>unsupported (.noEntry "extern/reflectlite: a nil value of one interface type handed on as a value of another")
        | _=>storeVar dst a val
      else storeVar dst a (.iface src val)
    else panicString ("reflectlite.Set: value of type " ++ (← Rtype.spelt src) ++ " is not assignable to type " ++ (← Rtype.spelt dst))
    pure (.tuple #[])):=rfl
theorem t_E (a:Addr)(w:World):(ReflectliteValue.parts<|.agg #[.pointer (some ⟨5,119,none⟩),.pointer<|some a,.int .u64 406]).run Tryz.prog w = .ok (some (119,a,406)) w:=by kernel_rfl
theorem t_F (a:Addr)(w:World):(ReflectliteValue.parts<|.agg #[.pointer (some ⟨5,119,none⟩),.pointer<|some a,.int .u64 150]).run Tryz.prog w = .ok (some (119,a,150)) w:=by kernel_rfl
theorem t_G (w:World):(Rtype.directlyAssignable 119 119).run Tryz.prog w = .ok true w:=by kernel_rfl
theorem as_size25 (w:World):(sizeOf 119).run Tryz.prog w = .ok 1 w:=by kernel_rfl
theorem t_H (ta b e:Addr)(old:Value)(W:World)(hb:W.cell? b=some (.pointer<|some e))(ht:W.cell? ta=some old)(hf:W.frozen? ta=false) :
    (ReflectliteValue.set #[.agg #[.pointer (some ⟨5,119,none⟩),.pointer<|some ta,.int .u64 406],.agg #[.pointer (some ⟨5,119,none⟩),.pointer<|some b,.int .u64 150]]).run Tryz.prog W
      = .ok (.tuple #[]) (W.setCell ta<|.pointer<|some e):=by
  rw [as_rls]
  simp only [Sem.run_bind,t_E,t_F,Result.andThen]
  simp [ReflectliteValue.flagAddr,loadVar,isAgg,underlying,Tryz.underlying119,hb,Result.andThen,t_G,storeVar,Value.cells,storeCells,Addr.add]
  rw [run_store Tryz.prog W ta _ _ (by rfl)]
  simp [ht,hf]
set_option maxHeartbeats 4000000 in
theorem as_hit (e t:Addr)(old:Value)(w:World)(hg:w.cell? ⟨0,0,none⟩=some (.iface 189<|.agg #[.pointer (some ⟨5,116,none⟩)]))(G:w.cell? t=some old)(H:w.frozen? t=false) :
    Calls Tryz.prog 77 #[.iface 119 (.pointer<|some e),.iface 121<|.pointer<|some t] w λev w'=>ev = .returned (.bool true)/\w'=((((w.alloc<|.cells #[.pointer (some t)] 121).alloc (.cells #[.pointer (some ⟨5,121,none⟩),.pointer<|some ⟨w.heap.size,0,none⟩,.int .u64 150] 154)).alloc (.cells #[.pointer (some ⟨5,121,none⟩),.pointer<|some ⟨w.heap.size,0,none⟩,.int .u64 150] 154)).alloc (.cells #[.pointer (some e)] 119)).setCell t (.pointer<|some e):=by
  have h6:=@run_callFunc_extern Tryz.prog 114 _ (λargs=>ReflectliteValue.unpack (args.getD 0 (.tuple #[]))) Tryz.func114 (by kernel_rfl) (by kernel_rfl) (by kernel_rfl) (by kernel_rfl);have h7:=@run_callFunc_extern Tryz.prog 115 _ (ReflectliteValue.methodAny (ReflectliteValue.valueError "reflectlite.Value.Type" 0) (λt _ _ _=>ReflectliteType.toType t)) Tryz.func115 (by kernel_rfl) (by kernel_rfl) (by kernel_rfl) (by kernel_rfl)
  have h8:=@run_callFunc_extern Tryz.prog 116 _ (ReflectliteValue.method (ReflectliteValue.valueError "reflectlite.Value.IsNil" 0) ReflectliteValue.isNil) Tryz.func116 (by kernel_rfl) (by kernel_rfl) (by kernel_rfl) (by kernel_rfl)
  have I:=@run_callFunc_extern Tryz.prog 194 _ (ReflectliteType.abiMethod λt=>do pure (.int .u8 (← Rtype.kind t))) Tryz.func194 (by kernel_rfl) (by kernel_rfl) (by kernel_rfl) (by kernel_rfl);have J:=@run_callFunc_extern Tryz.prog 204 _ (ReflectliteType.method ReflectliteType.elem) Tryz.func204 (by kernel_rfl) (by kernel_rfl) (by kernel_rfl) (by kernel_rfl);have L:=@run_callFunc_extern Tryz.prog 205 _ (ReflectliteType.relation "Implements" ReflectliteType.implements_) Tryz.func205 (by kernel_rfl) (by kernel_rfl) (by kernel_rfl) (by kernel_rfl)
  have O:=@run_callFunc_extern Tryz.prog 140 _ ReflectliteType.typeOf Tryz.func140 (by kernel_rfl) (by kernel_rfl) (by kernel_rfl) (by kernel_rfl);have V:=@run_callFunc_extern Tryz.prog 202 _ (ReflectliteType.relation "AssignableTo" ReflectliteType.assignableTo) Tryz.func202 (by kernel_rfl) (by kernel_rfl) (by kernel_rfl) (by kernel_rfl)
  have W:=@run_callFunc_extern Tryz.prog 141 _ (ReflectliteValue.method (ReflectliteValue.valueError "reflectlite.Value.Elem" 0) ReflectliteValue.elem) Tryz.func141 (by kernel_rfl) (by kernel_rfl) (by kernel_rfl) (by kernel_rfl)
  have Y:=@run_callFunc_extern Tryz.prog 142 _ ReflectliteValue.set Tryz.func142 (by kernel_rfl) (by kernel_rfl) (by kernel_rfl) (by kernel_rfl);have tO:=t_y;have mA:=t_v;have a0:=t_z;have a1:=t_A;have f6:=t_n;have f7:=t_o;have mK:=t_p;have mE:=t_t;have mI:=t_u;have a2:=t_q;have a3:=t_r;have a4:=t_w;have a5:=t_x;have n8:=t_s ⟨w.heap.size,0,none⟩ t ((w.alloc<|.cells #[.pointer (some t)] 121).alloc (.cells #[.pointer (some ⟨5,121,none⟩),.pointer<|some ⟨w.heap.size,0,none⟩,.int .u64 150] 154)) (by simp);have hlt:0<w.heap.size:=World.block_lt_of_cell? w _ hg
  have a6:((w.alloc<|.cells #[.pointer (some t)] 121).alloc (.cells #[.pointer (some ⟨5,121,none⟩),.pointer<|some ⟨w.heap.size,0,none⟩,.int .u64 150] 154)).cell? ⟨0,0,none⟩=some (.iface 189<|.agg #[.pointer (some ⟨5,116,none⟩)]):=by
    rw [World.cell?_alloc_lt _ _ ⟨0,0,none⟩ (by simp <;> omega),World.cell?_alloc_lt _ _ ⟨0,0,none⟩ hlt];exact hg
  have htl:t.block<w.heap.size:=by
    rcases Nat.lt_or_ge t.block w.heap.size with h | h
    . exact h
    . simp [World.cell?,Array.getElem?_eq_none h] at G
  have el:=t_D ⟨w.heap.size,0,none⟩ t (((w.alloc<|.cells #[.pointer (some t)] 121).alloc (.cells #[.pointer (some ⟨5,121,none⟩),.pointer<|some ⟨w.heap.size,0,none⟩,.int .u64 150] 154)).alloc (.cells #[.pointer (some ⟨5,121,none⟩),.pointer<|some ⟨w.heap.size,0,none⟩,.int .u64 150] 154)) (by rw [World.cell?_alloc_lt _ _ ⟨w.heap.size,0,none⟩ (by simp;omega)];simp)
  have st:=t_H t ⟨w.heap.size+1+1+1,0,none⟩ e old ((((w.alloc<|.cells #[.pointer (some t)] 121).alloc (.cells #[.pointer (some ⟨5,121,none⟩),.pointer<|some ⟨w.heap.size,0,none⟩,.int .u64 150] 154)).alloc (.cells #[.pointer (some ⟨5,121,none⟩),.pointer<|some ⟨w.heap.size,0,none⟩,.int .u64 150] 154)).alloc (.cells #[.pointer (some e)] 119))
    (by rw [World.cell?_alloc_at _ _ _ _ (by simp)];rfl)
    (by rw [World.cell?_alloc_lt _ _ t (by simp;omega),World.cell?_alloc_lt _ _ t (by simp;omega),World.cell?_alloc_lt _ _ t (by simp;omega),World.cell?_alloc_lt _ _ t htl];exact G)
    (by rw [World.frozen?_alloc_old _ _ t (by simp;omega),World.frozen?_alloc_old _ _ t (by simp;omega),World.frozen?_alloc_old _ _ t (by simp;omega),World.frozen?_alloc_old _ _ t<|Nat.ne_of_lt htl];exact H)
  go_enter Tryz.func77,Tryz.ntmps77
  go_wp2
  refine wp_loop_rounds 1 ?_
  rw [rounds_succ]
  go_wp2
  go_ret
  exact ⟨rfl,rfl⟩
theorem t_I {S:List Nat}{v t:Value}{w:World}{o:Option (Int×Int)}(h:a_H 119 w S v o)(ho:o.isSome=false):g_ Tryz.prog 77 [v,t] w (λr w'=>vB false=r/\Below w.heap.size w w'):=by
  cases o with
  | some _=>cases ho
  | none =>
  obtain ⟨rfl,_⟩:=h;exact ⟨(as_nil t w).mono λe w' ⟨he,hw⟩=>⟨_,he,rfl,hw ▸ Below.refl _ _⟩⟩
theorem t_J {S:List Nat}{v:Value}{w:World}{B:Zone}{g:Nat}{o:Option (Int×Int)}{p c:Int}(hG:Gl w B)(h:a_H 119 w S v o)(ho:o=some (p,c))(hb:Blk w g [.pointer none]) :
    g_ Tryz.prog 77 [v,.iface 121<|.pointer<|some ⟨g,0,none⟩] w (λr w'=>∃ge,vB true=r/\Chg (· = g) w w'/\Blk w' g [.pointer (some ⟨ge,0,none⟩)]/\Blk w ge [vI p,vI c]/\ge∈S/\inI p/\inI c):=by
  subst ho;obtain ⟨b,rfl,rfl,hbk,hp,hc⟩:=h;refine ⟨(as_hit ⟨b,0,none⟩ ⟨g,0,none⟩ (.pointer none) w (gl_err hG) (hb.at rfl)<|hb.free (i:=0) Nat.zero_lt_one).mono λe w' ⟨he,hw⟩=>⟨_,he,b,rfl,?_,?_,hbk,List.mem_singleton.2 rfl,hp,hc⟩⟩
  . subst hw;exact as_chg hb
  . subst hw;exact as_blk hb
end
end Go.Vw
