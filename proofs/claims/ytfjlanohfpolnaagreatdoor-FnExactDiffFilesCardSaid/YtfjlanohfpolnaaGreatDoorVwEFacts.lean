
import Derived.Test.YtfjlanohfpolnaaGreatDoorVmA
import Derived.Test.YtfjlanohfpolnaaGreatDoorProg
set_option linter.unusedVariables false
namespace Go.Vw
open Go.RowKit Dat Go.Proofs
theorem mo:Tryz.prog.follows .mixedOrders=true:=by kernel_rfl
def shV (s:Value):Nat->Value
  | 1=>.iface 149<|.agg #[]
  | 2=>.iface 150<|.agg #[]
  | 5=>.iface 151<|.agg #[]
  | 6=>.iface 154<|.agg #[s]
  | 7=>.iface 155<|.agg #[]
  | 8=>.iface 156<|.agg #[]
  | 9=>.iface 157<|.agg #[]
  | 10=>.nilIface
  | _=>.iface 184<|.agg #[]
theorem ta_149 {X:Nat->Prop}{N:Nat}{e:Env}{w:World}{dst:Option Tmp}{ty S:TypeId}{pos:String}{aft:Array Edge}{gd:Option (Nat×Bool)}{x:Operand}{s:Value}{k:Nat}(hx:ev e x=some (shV s k))(h:(k==1)=true):Rd X Tryz.prog N ⟨dst,.typeAssert x S 149 true,ty,pos,aft,gd⟩ e w (.tuple #[.agg #[],.bool true]):=fun a ha w' _=>by
  obtain rfl:k=1:=by simpa using h
  simp [execOp,ha.ev hx,shV,Instr.typeAssert,run_underlying Tryz.underlying149]
theorem o_L {X:Nat->Prop}{N:Nat}{e:Env}{w:World}{dst:Option Tmp}{ty S:TypeId}{pos:String}{aft:Array Edge}{gd:Option (Nat×Bool)}{x:Operand}{s:Value}{k:Nat}(hx:ev e x=some (shV s k))(h:(k==1)=false):Rd X Tryz.prog N ⟨dst,.typeAssert x S 149 true,ty,pos,aft,gd⟩ e w (.tuple #[.agg #[],.bool false]):=fun a ha w' _=>by
  have hk:k ≠ 1:=by simpa using h
  have hz:=Tryz.zeroValue149 w'
  simp only [execOp,ha.ev hx]
  unfold shV
  split <;> simp_all [Instr.typeAssert,run_underlying Tryz.underlying149]
theorem ta_150 {X:Nat->Prop}{N:Nat}{e:Env}{w:World}{dst:Option Tmp}{ty S:TypeId}{pos:String}{aft:Array Edge}{gd:Option (Nat×Bool)}{x:Operand}{s:Value}{k:Nat}(hx:ev e x=some (shV s k))(h:(k==2)=true):Rd X Tryz.prog N ⟨dst,.typeAssert x S 150 true,ty,pos,aft,gd⟩ e w (.tuple #[.agg #[],.bool true]):=fun a ha w' _=>by
  obtain rfl:k=2:=by simpa using h
  simp [execOp,ha.ev hx,shV,Instr.typeAssert,run_underlying Tryz.underlying150]
theorem o_M {X:Nat->Prop}{N:Nat}{e:Env}{w:World}{dst:Option Tmp}{ty S:TypeId}{pos:String}{aft:Array Edge}{gd:Option (Nat×Bool)}{x:Operand}{s:Value}{k:Nat}(hx:ev e x=some (shV s k))(h:(k==2)=false):Rd X Tryz.prog N ⟨dst,.typeAssert x S 150 true,ty,pos,aft,gd⟩ e w (.tuple #[.agg #[],.bool false]):=fun a ha w' _=>by
  have hk:k ≠ 2:=by simpa using h
  have hz:=Tryz.zeroValue150 w'
  simp only [execOp,ha.ev hx]
  unfold shV
  split <;> simp_all [Instr.typeAssert,run_underlying Tryz.underlying150]
theorem ta_151 {X:Nat->Prop}{N:Nat}{e:Env}{w:World}{dst:Option Tmp}{ty S:TypeId}{pos:String}{aft:Array Edge}{gd:Option (Nat×Bool)}{x:Operand}{s:Value}{k:Nat}(hx:ev e x=some (shV s k))(h:(k==5)=true):Rd X Tryz.prog N ⟨dst,.typeAssert x S 151 true,ty,pos,aft,gd⟩ e w (.tuple #[.agg #[],.bool true]):=fun a ha w' _=>by
  obtain rfl:k=5:=by simpa using h
  simp [execOp,ha.ev hx,shV,Instr.typeAssert,run_underlying Tryz.underlying151]
theorem o_N {X:Nat->Prop}{N:Nat}{e:Env}{w:World}{dst:Option Tmp}{ty S:TypeId}{pos:String}{aft:Array Edge}{gd:Option (Nat×Bool)}{x:Operand}{s:Value}{k:Nat}(hx:ev e x=some (shV s k))(h:(k==5)=false):Rd X Tryz.prog N ⟨dst,.typeAssert x S 151 true,ty,pos,aft,gd⟩ e w (.tuple #[.agg #[],.bool false]):=fun a ha w' _=>by
  have hk:k ≠ 5:=by simpa using h
  have hz:=Tryz.zeroValue151 w'
  simp only [execOp,ha.ev hx]
  unfold shV
  split <;> simp_all [Instr.typeAssert,run_underlying Tryz.underlying151]
theorem ta_154 {X:Nat->Prop}{N:Nat}{e:Env}{w:World}{dst:Option Tmp}{ty S:TypeId}{pos:String}{aft:Array Edge}{gd:Option (Nat×Bool)}{x:Operand}{s:Value}{k:Nat}(hx:ev e x=some (shV s k))(h:(k==6)=true):Rd X Tryz.prog N ⟨dst,.typeAssert x S 154 true,ty,pos,aft,gd⟩ e w (.tuple #[.agg #[s],.bool true]):=fun a ha w' _=>by
  obtain rfl:k=6:=by simpa using h
  simp [execOp,ha.ev hx,shV,Instr.typeAssert,run_underlying Tryz.underlying154]
theorem o_O {X:Nat->Prop}{N:Nat}{e:Env}{w:World}{dst:Option Tmp}{ty S:TypeId}{pos:String}{aft:Array Edge}{gd:Option (Nat×Bool)}{x:Operand}{s:Value}{k:Nat}(hx:ev e x=some (shV s k))(h:(k==6)=false):Rd X Tryz.prog N ⟨dst,.typeAssert x S 154 true,ty,pos,aft,gd⟩ e w (.tuple #[.agg #[.slice none 0 0],.bool false]):=fun a ha w' _=>by
  have hk:k ≠ 6:=by simpa using h
  have hz:=Tryz.zeroValue154 w'
  simp only [execOp,ha.ev hx]
  unfold shV
  split <;> simp_all [Instr.typeAssert,run_underlying Tryz.underlying154]
theorem ta_155 {X:Nat->Prop}{N:Nat}{e:Env}{w:World}{dst:Option Tmp}{ty S:TypeId}{pos:String}{aft:Array Edge}{gd:Option (Nat×Bool)}{x:Operand}{s:Value}{k:Nat}(hx:ev e x=some (shV s k))(h:(k==7)=true):Rd X Tryz.prog N ⟨dst,.typeAssert x S 155 true,ty,pos,aft,gd⟩ e w (.tuple #[.agg #[],.bool true]):=fun a ha w' _=>by
  obtain rfl:k=7:=by simpa using h
  simp [execOp,ha.ev hx,shV,Instr.typeAssert,run_underlying Tryz.underlying155]
theorem o_P {X:Nat->Prop}{N:Nat}{e:Env}{w:World}{dst:Option Tmp}{ty S:TypeId}{pos:String}{aft:Array Edge}{gd:Option (Nat×Bool)}{x:Operand}{s:Value}{k:Nat}(hx:ev e x=some (shV s k))(h:(k==7)=false):Rd X Tryz.prog N ⟨dst,.typeAssert x S 155 true,ty,pos,aft,gd⟩ e w (.tuple #[.agg #[],.bool false]):=fun a ha w' _=>by
  have hk:k ≠ 7:=by simpa using h
  have hz:=Tryz.zeroValue155 w'
  simp only [execOp,ha.ev hx]
  unfold shV
  split <;> simp_all [Instr.typeAssert,run_underlying Tryz.underlying155]
theorem ta_156 {X:Nat->Prop}{N:Nat}{e:Env}{w:World}{dst:Option Tmp}{ty S:TypeId}{pos:String}{aft:Array Edge}{gd:Option (Nat×Bool)}{x:Operand}{s:Value}{k:Nat}(hx:ev e x=some (shV s k))(h:(k==8)=true):Rd X Tryz.prog N ⟨dst,.typeAssert x S 156 true,ty,pos,aft,gd⟩ e w (.tuple #[.agg #[],.bool true]):=fun a ha w' _=>by
  obtain rfl:k=8:=by simpa using h
  simp [execOp,ha.ev hx,shV,Instr.typeAssert,run_underlying Tryz.underlying156]
theorem o_Q {X:Nat->Prop}{N:Nat}{e:Env}{w:World}{dst:Option Tmp}{ty S:TypeId}{pos:String}{aft:Array Edge}{gd:Option (Nat×Bool)}{x:Operand}{s:Value}{k:Nat}(hx:ev e x=some (shV s k))(h:(k==8)=false):Rd X Tryz.prog N ⟨dst,.typeAssert x S 156 true,ty,pos,aft,gd⟩ e w (.tuple #[.agg #[],.bool false]):=fun a ha w' _=>by
  have hk:k ≠ 8:=by simpa using h
  have hz:=Tryz.zeroValue156 w'
  simp only [execOp,ha.ev hx]
  unfold shV
  split <;> simp_all [Instr.typeAssert,run_underlying Tryz.underlying156]
theorem ta_157 {X:Nat->Prop}{N:Nat}{e:Env}{w:World}{dst:Option Tmp}{ty S:TypeId}{pos:String}{aft:Array Edge}{gd:Option (Nat×Bool)}{x:Operand}{s:Value}{k:Nat}(hx:ev e x=some (shV s k))(h:(k==9)=true):Rd X Tryz.prog N ⟨dst,.typeAssert x S 157 true,ty,pos,aft,gd⟩ e w (.tuple #[.agg #[],.bool true]):=fun a ha w' _=>by
  obtain rfl:k=9:=by simpa using h
  simp [execOp,ha.ev hx,shV,Instr.typeAssert,run_underlying Tryz.underlying157]
theorem o_R {X:Nat->Prop}{N:Nat}{e:Env}{w:World}{dst:Option Tmp}{ty S:TypeId}{pos:String}{aft:Array Edge}{gd:Option (Nat×Bool)}{x:Operand}{s:Value}{k:Nat}(hx:ev e x=some (shV s k))(h:(k==9)=false):Rd X Tryz.prog N ⟨dst,.typeAssert x S 157 true,ty,pos,aft,gd⟩ e w (.tuple #[.agg #[],.bool false]):=fun a ha w' _=>by
  have hk:k ≠ 9:=by simpa using h
  have hz:=Tryz.zeroValue157 w'
  simp only [execOp,ha.ev hx]
  unfold shV
  split <;> simp_all [Instr.typeAssert,run_underlying Tryz.underlying157]
abbrev g_121:=@Tryz.isAgg121
abbrev g_22:=@Tryz.isAgg22
abbrev g_24:=@Tryz.isAgg24
abbrev U_:=@Tryz.isAgg25
abbrev a_D:=@Tryz.isAgg27
abbrev a_e:=@Tryz.isAgg29
abbrev g_3:=@Tryz.isAgg3
abbrev t_:=@Tryz.isAgg31
abbrev g_4:=@Tryz.isAgg4
abbrev I_:=@Tryz.isAgg42
abbrev k_:=@Tryz.isAgg44
abbrev g_5:=@Tryz.isAgg5
abbrev g_51:=@Tryz.isAgg51
abbrev B_:=@Tryz.isAgg57
abbrev g_59:=@Tryz.isAgg59
abbrev G_:=@Tryz.isAgg67
abbrev g_70:=@Tryz.isAgg70
abbrev e_p:=@Tryz.isAgg74
abbrev g_9:=@Tryz.isAgg9
abbrev g_98:=@Tryz.isAgg98
theorem o_S:b_x Tryz.prog 102 [(.int .i64 0),(.int .i64 0)] [(0,1),(1,1)]:=⟨fun w=>Tryz.zeroValue102 w,_,Tryz.underlying102,fun w=>by simp [Tryz.sizeOf3]⟩
theorem o_T:b_x Tryz.prog 149 [] []:=⟨fun w=>Tryz.zeroValue149 w,_,Tryz.underlying149,fun w=>by simp []⟩
theorem o_U:b_x Tryz.prog 150 [] []:=⟨fun w=>Tryz.zeroValue150 w,_,Tryz.underlying150,fun w=>by simp []⟩
theorem o_V:b_x Tryz.prog 151 [] []:=⟨fun w=>Tryz.zeroValue151 w,_,Tryz.underlying151,fun w=>by simp []⟩
theorem o_W:b_x Tryz.prog 154 [(.slice none 0 0)] [(0,1)]:=⟨fun w=>Tryz.zeroValue154 w,_,Tryz.underlying154,fun w=>by simp [Tryz.sizeOf27]⟩
theorem o_X:b_x Tryz.prog 155 [] []:=⟨fun w=>Tryz.zeroValue155 w,_,Tryz.underlying155,fun w=>by simp []⟩
theorem o_Y:b_x Tryz.prog 156 [] []:=⟨fun w=>Tryz.zeroValue156 w,_,Tryz.underlying156,fun w=>by simp []⟩
theorem o_Z:b_x Tryz.prog 157 [] []:=⟨fun w=>Tryz.zeroValue157 w,_,Tryz.underlying157,fun w=>by simp []⟩
theorem p_0:b_x Tryz.prog 184 [] []:=⟨fun w=>Tryz.zeroValue184 w,_,Tryz.underlying184,fun w=>by simp []⟩
theorem E_:b_x Tryz.prog 44 [(.int .i64 0),.slice none 0 0,(.slice none 0 0)] [(0,1),(1,1),(2,1)]:=⟨fun w=>Tryz.zeroValue44 w,_,Tryz.underlying44,fun w=>by simp [Tryz.sizeOf25,Tryz.sizeOf3,Tryz.sizeOf42]⟩
theorem l_q:b_x Tryz.prog 51 [(Str.v ⟨[]⟩),.int .i64 0,.slice none 0 0,(.slice none 0 0)] [(0,1),(1,3)]:=⟨fun w=>Tryz.zeroValue51 w,_,Tryz.underlying51,fun w=>by simp [Tryz.sizeOf44,Tryz.sizeOf9]⟩
theorem p_1:b_x Tryz.prog 72 [(.slice none 0 0),(.map none)] [(0,1),(1,1)]:=⟨fun w=>Tryz.zeroValue72 w,_,Tryz.underlying72,fun w=>by simp [Tryz.sizeOf31,Tryz.sizeOf70]⟩
theorem l_r:b_x Tryz.prog 76 [(.int .i64 0)] [(0,1)]:=⟨fun w=>Tryz.zeroValue76 w,_,Tryz.underlying76,fun w=>by simp [Tryz.sizeOf3]⟩
theorem p_2:b_x Tryz.prog 93 [(.slice none 0 0),(.slice none 0 0)] [(0,1),(1,1)]:=⟨fun w=>Tryz.zeroValue93 w,_,Tryz.underlying93,fun w=>by simp [Tryz.sizeOf25,Tryz.sizeOf31]⟩
theorem a_c:El Tryz.prog 25 5 1 1 (.int .u8 0):=⟨Tryz.underlying25,by kernel_rfl,rfl,by decide,by decide⟩
theorem a_E:El Tryz.prog 27 9 1 16 (Str.v ⟨[]⟩):=⟨Tryz.underlying27,by kernel_rfl,rfl,by decide,by decide⟩
theorem el_29:El Tryz.prog 29 67 8 136 (.agg #[(Str.v ⟨[]⟩),.int .i64 0,.int .i64 0,.bool false,.slice none 0 0,.slice none 0 0,.slice none 0 0,(.slice none 0 0)]):=⟨Tryz.underlying29,by kernel_rfl,rfl,by decide,by decide⟩
theorem b_s:El Tryz.prog 42 44 3 56 (.agg #[(.int .i64 0),.slice none 0 0,(.slice none 0 0)]):=⟨Tryz.underlying42,by kernel_rfl,rfl,by decide,by decide⟩
theorem d_E:El Tryz.prog 47 51 4 72 (.agg #[(Str.v ⟨[]⟩),.int .i64 0,.slice none 0 0,(.slice none 0 0)]):=⟨Tryz.underlying47,by kernel_rfl,rfl,by decide,by decide⟩
theorem j_5:El Tryz.prog 57 3 1 8 (.int .i64 0):=⟨Tryz.underlying57,by kernel_rfl,rfl,by decide,by decide⟩
theorem p_3:Fld Tryz.prog 102 0 0:=⟨_,_,Tryz.underlying102,rfl,rfl,1,fun w=>Tryz.sizeOf3 w,by decide⟩
theorem p_4:Fld Tryz.prog 102 1 1:=⟨_,_,Tryz.underlying102,rfl,rfl,1,fun w=>Tryz.sizeOf3 w,by decide⟩
theorem p_5:Fld Tryz.prog 154 0 0:=⟨_,_,Tryz.underlying154,rfl,rfl,1,fun w=>Tryz.sizeOf27 w,by decide⟩
theorem l_s:Fld Tryz.prog 24 0 0:=⟨_,_,Tryz.underlying24,rfl,rfl,1,fun w=>Tryz.sizeOf22 w,by decide⟩
theorem a_d:Fld Tryz.prog 31 0 0:=⟨_,_,Tryz.underlying31,rfl,rfl,1,fun w=>Tryz.sizeOf29 w,by decide⟩
theorem a_v:Fld Tryz.prog 44 0 0:=⟨_,_,Tryz.underlying44,rfl,rfl,1,fun w=>Tryz.sizeOf3 w,by decide⟩
theorem a_R:Fld Tryz.prog 44 1 1:=⟨_,_,Tryz.underlying44,rfl,rfl,1,fun w=>Tryz.sizeOf25 w,by decide⟩
theorem F_:Fld Tryz.prog 44 2 2:=⟨_,_,Tryz.underlying44,rfl,rfl,1,fun w=>Tryz.sizeOf42 w,by decide⟩
theorem h_y:Fld Tryz.prog 51 0 0:=⟨_,_,Tryz.underlying51,rfl,rfl,1,fun w=>Tryz.sizeOf9 w,by decide⟩
theorem l_t:Fld Tryz.prog 51 1 1:=⟨_,_,Tryz.underlying51,rfl,rfl,3,fun w=>Tryz.sizeOf44 w,by decide⟩
theorem l_u:Fld Tryz.prog 59 0 0:=⟨_,_,Tryz.underlying59,rfl,rfl,1,fun w=>Tryz.sizeOf9 w,by decide⟩
theorem f_59_1:Fld Tryz.prog 59 1 1:=⟨_,_,Tryz.underlying59,rfl,rfl,1,fun w=>Tryz.sizeOf3 w,by decide⟩
theorem f_59_2:Fld Tryz.prog 59 2 2:=⟨_,_,Tryz.underlying59,rfl,rfl,1,fun w=>Tryz.sizeOf3 w,by decide⟩
theorem f_59_3:Fld Tryz.prog 59 3 3:=⟨_,_,Tryz.underlying59,rfl,rfl,1,fun w=>Tryz.sizeOf4 w,by decide⟩
theorem l_v:Fld Tryz.prog 59 4 4:=⟨_,_,Tryz.underlying59,rfl,rfl,1,fun w=>Tryz.sizeOf25 w,by decide⟩
theorem l_w:Fld Tryz.prog 59 5 5:=⟨_,_,Tryz.underlying59,rfl,rfl,1,fun w=>Tryz.sizeOf27 w,by decide⟩
theorem l_x:Fld Tryz.prog 59 6 6:=⟨_,_,Tryz.underlying59,rfl,rfl,1,fun w=>Tryz.sizeOf57 w,by decide⟩
theorem l_y:Fld Tryz.prog 59 7 7:=⟨_,_,Tryz.underlying59,rfl,rfl,1,fun w=>Tryz.sizeOf57 w,by decide⟩
theorem c_K:Fld Tryz.prog 67 0 0:=⟨_,_,Tryz.underlying67,rfl,rfl,1,fun w=>Tryz.sizeOf9 w,by decide⟩
theorem a_q:Fld Tryz.prog 67 1 1:=⟨_,_,Tryz.underlying67,rfl,rfl,1,fun w=>Tryz.sizeOf3 w,by decide⟩
theorem a_I:Fld Tryz.prog 67 2 2:=⟨_,_,Tryz.underlying67,rfl,rfl,1,fun w=>Tryz.sizeOf3 w,by decide⟩
theorem c_L:Fld Tryz.prog 67 3 3:=⟨_,_,Tryz.underlying67,rfl,rfl,1,fun w=>Tryz.sizeOf4 w,by decide⟩
theorem b_8:Fld Tryz.prog 67 4 4:=⟨_,_,Tryz.underlying67,rfl,rfl,1,fun w=>Tryz.sizeOf25 w,by decide⟩
theorem b_m:Fld Tryz.prog 67 5 5:=⟨_,_,Tryz.underlying67,rfl,rfl,1,fun w=>Tryz.sizeOf27 w,by decide⟩
theorem a_Y:Fld Tryz.prog 67 6 6:=⟨_,_,Tryz.underlying67,rfl,rfl,1,fun w=>Tryz.sizeOf57 w,by decide⟩
theorem Z_:Fld Tryz.prog 67 7 7:=⟨_,_,Tryz.underlying67,rfl,rfl,1,fun w=>Tryz.sizeOf57 w,by decide⟩
theorem l_z:Fld Tryz.prog 72 0 0:=⟨_,_,Tryz.underlying72,rfl,rfl,1,fun w=>Tryz.sizeOf31 w,by decide⟩
theorem h_z:Fld Tryz.prog 72 1 1:=⟨_,_,Tryz.underlying72,rfl,rfl,1,fun w=>Tryz.sizeOf70 w,by decide⟩
theorem l_A:Fld Tryz.prog 93 0 0:=⟨_,_,Tryz.underlying93,rfl,rfl,1,fun w=>Tryz.sizeOf31 w,by decide⟩
theorem f_1:Fld Tryz.prog 93 1 1:=⟨_,_,Tryz.underlying93,rfl,rfl,1,fun w=>Tryz.sizeOf25 w,by decide⟩
theorem l_B:e_w Tryz.prog 70:=q_h Tryz.underlying70 (by kernel_rfl) Tryz.underlying76 Tryz.underlying3 rfl (by kernel_rfl) (by kernel_rfl) (Nat.le_of_ble_eq_true (by kernel_rfl)) (by kernel_rfl) (by kernel_rfl) rfl (m:=244) (by kernel_rfl)
abbrev z_149:=@Tryz.sizeOf149
abbrev z_150:=@Tryz.sizeOf150
abbrev z_151:=@Tryz.sizeOf151
abbrev z_154:=@Tryz.sizeOf154
abbrev z_155:=@Tryz.sizeOf155
abbrev z_156:=@Tryz.sizeOf156
abbrev z_157:=@Tryz.sizeOf157
abbrev z_24:=@Tryz.sizeOf24
abbrev z_25:=@Tryz.sizeOf25
abbrev e_q:=@Tryz.sizeOf27
abbrev z_29:=@Tryz.sizeOf29
abbrev z_3:=@Tryz.sizeOf3
abbrev r_:=@Tryz.sizeOf31
abbrev z_4:=@Tryz.sizeOf4
abbrev z_42:=@Tryz.sizeOf42
abbrev d_:=@Tryz.sizeOf44
abbrev z_5:=@Tryz.sizeOf5
abbrev f_2:=@Tryz.sizeOf51
abbrev z_57:=@Tryz.sizeOf57
abbrev z_59:=@Tryz.sizeOf59
abbrev o_:=@Tryz.sizeOf67
abbrev z_9:=@Tryz.sizeOf9
abbrev d_100:=@Tryz.underlying100
abbrev d_149:=@Tryz.underlying149
abbrev d_150:=@Tryz.underlying150
abbrev d_151:=@Tryz.underlying151
abbrev d_154:=@Tryz.underlying154
abbrev d_155:=@Tryz.underlying155
abbrev d_156:=@Tryz.underlying156
abbrev d_157:=@Tryz.underlying157
abbrev d_184:=@Tryz.underlying184
abbrev d_F:=@Tryz.underlying22
abbrev n_:=@Tryz.underlying25
abbrev J_:=@Tryz.underlying27
abbrev Q_:=@Tryz.underlying29
abbrev d_3:=@Tryz.underlying3
abbrev d_4:=@Tryz.underlying4
abbrev K_:=@Tryz.underlying42
abbrev d_47:=@Tryz.underlying47
abbrev d_5:=@Tryz.underlying5
abbrev y_:=@Tryz.underlying57
abbrev d_70:=@Tryz.underlying70
abbrev d_74:=@Tryz.underlying74
abbrev d_9:=@Tryz.underlying9
abbrev d_6:=@Tryz.underlying95
abbrev d_98:=@Tryz.underlying98
theorem p_6 (w:World):(zeroValue 149).run Tryz.prog w = .ok (.agg #[]) w:=Tryz.zeroValue149 w
theorem p_7 (w:World):(zeroValue 150).run Tryz.prog w = .ok (.agg #[]) w:=Tryz.zeroValue150 w
theorem p_8 (w:World):(zeroValue 151).run Tryz.prog w = .ok (.agg #[]) w:=Tryz.zeroValue151 w
theorem p_9 (w:World):(zeroValue 154).run Tryz.prog w = .ok (.agg #[(.slice none 0 0)]) w:=Tryz.zeroValue154 w
theorem p_a (w:World):(zeroValue 155).run Tryz.prog w = .ok (.agg #[]) w:=Tryz.zeroValue155 w
theorem p_b (w:World):(zeroValue 156).run Tryz.prog w = .ok (.agg #[]) w:=Tryz.zeroValue156 w
theorem p_c (w:World):(zeroValue 157).run Tryz.prog w = .ok (.agg #[]) w:=Tryz.zeroValue157 w
theorem l_C (w:World):(zeroValue 27).run Tryz.prog w = .ok (.slice none 0 0) w:=Tryz.zeroValue27 w
theorem j_6 (w:World):(zeroValue 31).run Tryz.prog w = .ok (.agg #[(.slice none 0 0)]) w:=Tryz.zeroValue31 w
theorem zero_4 (w:World):(zeroValue 4).run Tryz.prog w = .ok (.bool false) w:=Tryz.zeroValue4 w
theorem O_ (w:World):(zeroValue 44).run Tryz.prog w = .ok (.agg #[(.int .i64 0),.slice none 0 0,(.slice none 0 0)]) w:=Tryz.zeroValue44 w
theorem p_d (w:World):(zeroValue 51).run Tryz.prog w = .ok (.agg #[(Str.v ⟨[]⟩),.int .i64 0,.slice none 0 0,(.slice none 0 0)]) w:=Tryz.zeroValue51 w
theorem b_U (w:World):(zeroValue 67).run Tryz.prog w = .ok (.agg #[(Str.v ⟨[]⟩),.int .i64 0,.int .i64 0,.bool false,.slice none 0 0,.slice none 0 0,.slice none 0 0,(.slice none 0 0)]) w:=Tryz.zeroValue67 w
theorem p_e (w:World):(zeroValue 98).run Tryz.prog w = .ok (.pointer none) w:=Tryz.zeroValue98 w
end Go.Vw
