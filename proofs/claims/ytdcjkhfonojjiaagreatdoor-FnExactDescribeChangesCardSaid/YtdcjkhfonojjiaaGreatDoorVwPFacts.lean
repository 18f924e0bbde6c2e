
import Derived.Test.YtdcjkhfonojjiaaGreatDoorVmA
import Derived.Test.YtdcjkhfonojjiaaGreatDoorProg
set_option linter.unusedVariables false
namespace Go.Vw
open Go.RowKit Dat Go.Proofs
theorem mo:Tryz.prog.follows .mixedOrders=true:=by kernel_rfl
def shV (s:Value):Nat->Value
  | 1=>.iface 157<|.agg #[]
  | 2=>.iface 158<|.agg #[]
  | 5=>.iface 159<|.agg #[]
  | 6=>.iface 161<|.agg #[s]
  | 7=>.iface 162<|.agg #[]
  | 8=>.iface 163<|.agg #[]
  | 9=>.iface 164<|.agg #[]
  | 10=>.nilIface
  | _=>.iface 194<|.agg #[]
theorem ta_157 {X:Nat->Prop}{N:Nat}{e:Env}{w:World}{dst:Option Tmp}{ty S:TypeId}{pos:String}{aft:Array Edge}{gd:Option (Nat×Bool)}{x:Operand}{s:Value}{k:Nat}(hx:ev e x=some (shV s k))(h:(k==1)=true):Rd X Tryz.prog N ⟨dst,.typeAssert x S 157 true,ty,pos,aft,gd⟩ e w (.tuple #[.agg #[],.bool true]):=fun a ha w' _=>by
  obtain rfl:k=1:=by simpa using h
  simp [execOp,ha.ev hx,shV,Instr.typeAssert,run_underlying Tryz.underlying157]
theorem r_b {X:Nat->Prop}{N:Nat}{e:Env}{w:World}{dst:Option Tmp}{ty S:TypeId}{pos:String}{aft:Array Edge}{gd:Option (Nat×Bool)}{x:Operand}{s:Value}{k:Nat}(hx:ev e x=some (shV s k))(h:(k==1)=false):Rd X Tryz.prog N ⟨dst,.typeAssert x S 157 true,ty,pos,aft,gd⟩ e w (.tuple #[.agg #[],.bool false]):=fun a ha w' _=>by
  have hk:k ≠ 1:=by simpa using h
  have hz:=Tryz.zeroValue157 w'
  simp only [execOp,ha.ev hx]
  unfold shV
  split <;> simp_all [Instr.typeAssert,run_underlying Tryz.underlying157]
theorem ta_158 {X:Nat->Prop}{N:Nat}{e:Env}{w:World}{dst:Option Tmp}{ty S:TypeId}{pos:String}{aft:Array Edge}{gd:Option (Nat×Bool)}{x:Operand}{s:Value}{k:Nat}(hx:ev e x=some (shV s k))(h:(k==2)=true):Rd X Tryz.prog N ⟨dst,.typeAssert x S 158 true,ty,pos,aft,gd⟩ e w (.tuple #[.agg #[],.bool true]):=fun a ha w' _=>by
  obtain rfl:k=2:=by simpa using h
  simp [execOp,ha.ev hx,shV,Instr.typeAssert,run_underlying Tryz.underlying158]
theorem r_c {X:Nat->Prop}{N:Nat}{e:Env}{w:World}{dst:Option Tmp}{ty S:TypeId}{pos:String}{aft:Array Edge}{gd:Option (Nat×Bool)}{x:Operand}{s:Value}{k:Nat}(hx:ev e x=some (shV s k))(h:(k==2)=false):Rd X Tryz.prog N ⟨dst,.typeAssert x S 158 true,ty,pos,aft,gd⟩ e w (.tuple #[.agg #[],.bool false]):=fun a ha w' _=>by
  have hk:k ≠ 2:=by simpa using h
  have hz:=Tryz.zeroValue158 w'
  simp only [execOp,ha.ev hx]
  unfold shV
  split <;> simp_all [Instr.typeAssert,run_underlying Tryz.underlying158]
theorem ta_159 {X:Nat->Prop}{N:Nat}{e:Env}{w:World}{dst:Option Tmp}{ty S:TypeId}{pos:String}{aft:Array Edge}{gd:Option (Nat×Bool)}{x:Operand}{s:Value}{k:Nat}(hx:ev e x=some (shV s k))(h:(k==5)=true):Rd X Tryz.prog N ⟨dst,.typeAssert x S 159 true,ty,pos,aft,gd⟩ e w (.tuple #[.agg #[],.bool true]):=fun a ha w' _=>by
  obtain rfl:k=5:=by simpa using h
  simp [execOp,ha.ev hx,shV,Instr.typeAssert,run_underlying Tryz.underlying159]
theorem r_d {X:Nat->Prop}{N:Nat}{e:Env}{w:World}{dst:Option Tmp}{ty S:TypeId}{pos:String}{aft:Array Edge}{gd:Option (Nat×Bool)}{x:Operand}{s:Value}{k:Nat}(hx:ev e x=some (shV s k))(h:(k==5)=false):Rd X Tryz.prog N ⟨dst,.typeAssert x S 159 true,ty,pos,aft,gd⟩ e w (.tuple #[.agg #[],.bool false]):=fun a ha w' _=>by
  have hk:k ≠ 5:=by simpa using h
  have hz:=Tryz.zeroValue159 w'
  simp only [execOp,ha.ev hx]
  unfold shV
  split <;> simp_all [Instr.typeAssert,run_underlying Tryz.underlying159]
theorem ta_161 {X:Nat->Prop}{N:Nat}{e:Env}{w:World}{dst:Option Tmp}{ty S:TypeId}{pos:String}{aft:Array Edge}{gd:Option (Nat×Bool)}{x:Operand}{s:Value}{k:Nat}(hx:ev e x=some (shV s k))(h:(k==6)=true):Rd X Tryz.prog N ⟨dst,.typeAssert x S 161 true,ty,pos,aft,gd⟩ e w (.tuple #[.agg #[s],.bool true]):=fun a ha w' _=>by
  obtain rfl:k=6:=by simpa using h
  simp [execOp,ha.ev hx,shV,Instr.typeAssert,run_underlying Tryz.underlying161]
theorem r_e {X:Nat->Prop}{N:Nat}{e:Env}{w:World}{dst:Option Tmp}{ty S:TypeId}{pos:String}{aft:Array Edge}{gd:Option (Nat×Bool)}{x:Operand}{s:Value}{k:Nat}(hx:ev e x=some (shV s k))(h:(k==6)=false):Rd X Tryz.prog N ⟨dst,.typeAssert x S 161 true,ty,pos,aft,gd⟩ e w (.tuple #[.agg #[.slice none 0 0],.bool false]):=fun a ha w' _=>by
  have hk:k ≠ 6:=by simpa using h
  have hz:=Tryz.zeroValue161 w'
  simp only [execOp,ha.ev hx]
  unfold shV
  split <;> simp_all [Instr.typeAssert,run_underlying Tryz.underlying161]
theorem ta_162 {X:Nat->Prop}{N:Nat}{e:Env}{w:World}{dst:Option Tmp}{ty S:TypeId}{pos:String}{aft:Array Edge}{gd:Option (Nat×Bool)}{x:Operand}{s:Value}{k:Nat}(hx:ev e x=some (shV s k))(h:(k==7)=true):Rd X Tryz.prog N ⟨dst,.typeAssert x S 162 true,ty,pos,aft,gd⟩ e w (.tuple #[.agg #[],.bool true]):=fun a ha w' _=>by
  obtain rfl:k=7:=by simpa using h
  simp [execOp,ha.ev hx,shV,Instr.typeAssert,run_underlying Tryz.underlying162]
theorem r_f {X:Nat->Prop}{N:Nat}{e:Env}{w:World}{dst:Option Tmp}{ty S:TypeId}{pos:String}{aft:Array Edge}{gd:Option (Nat×Bool)}{x:Operand}{s:Value}{k:Nat}(hx:ev e x=some (shV s k))(h:(k==7)=false):Rd X Tryz.prog N ⟨dst,.typeAssert x S 162 true,ty,pos,aft,gd⟩ e w (.tuple #[.agg #[],.bool false]):=fun a ha w' _=>by
  have hk:k ≠ 7:=by simpa using h
  have hz:=Tryz.zeroValue162 w'
  simp only [execOp,ha.ev hx]
  unfold shV
  split <;> simp_all [Instr.typeAssert,run_underlying Tryz.underlying162]
theorem ta_163 {X:Nat->Prop}{N:Nat}{e:Env}{w:World}{dst:Option Tmp}{ty S:TypeId}{pos:String}{aft:Array Edge}{gd:Option (Nat×Bool)}{x:Operand}{s:Value}{k:Nat}(hx:ev e x=some (shV s k))(h:(k==8)=true):Rd X Tryz.prog N ⟨dst,.typeAssert x S 163 true,ty,pos,aft,gd⟩ e w (.tuple #[.agg #[],.bool true]):=fun a ha w' _=>by
  obtain rfl:k=8:=by simpa using h
  simp [execOp,ha.ev hx,shV,Instr.typeAssert,run_underlying Tryz.underlying163]
theorem r_g {X:Nat->Prop}{N:Nat}{e:Env}{w:World}{dst:Option Tmp}{ty S:TypeId}{pos:String}{aft:Array Edge}{gd:Option (Nat×Bool)}{x:Operand}{s:Value}{k:Nat}(hx:ev e x=some (shV s k))(h:(k==8)=false):Rd X Tryz.prog N ⟨dst,.typeAssert x S 163 true,ty,pos,aft,gd⟩ e w (.tuple #[.agg #[],.bool false]):=fun a ha w' _=>by
  have hk:k ≠ 8:=by simpa using h
  have hz:=Tryz.zeroValue163 w'
  simp only [execOp,ha.ev hx]
  unfold shV
  split <;> simp_all [Instr.typeAssert,run_underlying Tryz.underlying163]
theorem ta_164 {X:Nat->Prop}{N:Nat}{e:Env}{w:World}{dst:Option Tmp}{ty S:TypeId}{pos:String}{aft:Array Edge}{gd:Option (Nat×Bool)}{x:Operand}{s:Value}{k:Nat}(hx:ev e x=some (shV s k))(h:(k==9)=true):Rd X Tryz.prog N ⟨dst,.typeAssert x S 164 true,ty,pos,aft,gd⟩ e w (.tuple #[.agg #[],.bool true]):=fun a ha w' _=>by
  obtain rfl:k=9:=by simpa using h
  simp [execOp,ha.ev hx,shV,Instr.typeAssert,run_underlying Tryz.underlying164]
theorem r_h {X:Nat->Prop}{N:Nat}{e:Env}{w:World}{dst:Option Tmp}{ty S:TypeId}{pos:String}{aft:Array Edge}{gd:Option (Nat×Bool)}{x:Operand}{s:Value}{k:Nat}(hx:ev e x=some (shV s k))(h:(k==9)=false):Rd X Tryz.prog N ⟨dst,.typeAssert x S 164 true,ty,pos,aft,gd⟩ e w (.tuple #[.agg #[],.bool false]):=fun a ha w' _=>by
  have hk:k ≠ 9:=by simpa using h
  have hz:=Tryz.zeroValue164 w'
  simp only [execOp,ha.ev hx]
  unfold shV
  split <;> simp_all [Instr.typeAssert,run_underlying Tryz.underlying164]
abbrev g_106:=@Tryz.isAgg106
abbrev g_130:=@Tryz.isAgg130
abbrev g_22:=@Tryz.isAgg22
abbrev g_24:=@Tryz.isAgg24
abbrev U_:=@Tryz.isAgg25
abbrev a_e:=@Tryz.isAgg28
abbrev g_3:=@Tryz.isAgg3
abbrev o_:=@Tryz.isAgg30
abbrev a_E:=@Tryz.isAgg38
abbrev g_4:=@Tryz.isAgg4
abbrev B_:=@Tryz.isAgg44
abbrev g_46:=@Tryz.isAgg46
abbrev I_:=@Tryz.isAgg47
abbrev i_:=@Tryz.isAgg49
abbrev g_5:=@Tryz.isAgg5
abbrev g_56:=@Tryz.isAgg56
abbrev G_:=@Tryz.isAgg57
abbrev g_73:=@Tryz.isAgg73
abbrev e_r:=@Tryz.isAgg77
abbrev g_9:=@Tryz.isAgg9
theorem r_i:b_t Tryz.prog 103 [(.slice none 0 0),(.slice none 0 0)] [(0,1),(1,1)]:=⟨fun w=>Tryz.zeroValue103 w,_,Tryz.underlying103,fun w=>by simp [Tryz.sizeOf25,Tryz.sizeOf30]⟩
theorem r_j:b_t Tryz.prog 110 [(.int .i64 0),(.int .i64 0)] [(0,1),(1,1)]:=⟨fun w=>Tryz.zeroValue110 w,_,Tryz.underlying110,fun w=>by simp [Tryz.sizeOf3]⟩
theorem r_k:b_t Tryz.prog 157 [] []:=⟨fun w=>Tryz.zeroValue157 w,_,Tryz.underlying157,fun w=>by simp []⟩
theorem r_l:b_t Tryz.prog 158 [] []:=⟨fun w=>Tryz.zeroValue158 w,_,Tryz.underlying158,fun w=>by simp []⟩
theorem r_m:b_t Tryz.prog 159 [] []:=⟨fun w=>Tryz.zeroValue159 w,_,Tryz.underlying159,fun w=>by simp []⟩
theorem r_n:b_t Tryz.prog 161 [(.slice none 0 0)] [(0,1)]:=⟨fun w=>Tryz.zeroValue161 w,_,Tryz.underlying161,fun w=>by simp [Tryz.sizeOf38]⟩
theorem r_o:b_t Tryz.prog 162 [] []:=⟨fun w=>Tryz.zeroValue162 w,_,Tryz.underlying162,fun w=>by simp []⟩
theorem r_p:b_t Tryz.prog 163 [] []:=⟨fun w=>Tryz.zeroValue163 w,_,Tryz.underlying163,fun w=>by simp []⟩
theorem r_q:b_t Tryz.prog 164 [] []:=⟨fun w=>Tryz.zeroValue164 w,_,Tryz.underlying164,fun w=>by simp []⟩
theorem r_r:b_t Tryz.prog 194 [] []:=⟨fun w=>Tryz.zeroValue194 w,_,Tryz.underlying194,fun w=>by simp []⟩
theorem E_:b_t Tryz.prog 49 [(.int .i64 0),.slice none 0 0,(.slice none 0 0)] [(0,1),(1,1),(2,1)]:=⟨fun w=>Tryz.zeroValue49 w,_,Tryz.underlying49,fun w=>by simp [Tryz.sizeOf25,Tryz.sizeOf3,Tryz.sizeOf47]⟩
theorem m_J:b_t Tryz.prog 56 [(Str.v ⟨[]⟩),.int .i64 0,.slice none 0 0,(.slice none 0 0)] [(0,1),(1,3)]:=⟨fun w=>Tryz.zeroValue56 w,_,Tryz.underlying56,fun w=>by simp [Tryz.sizeOf49,Tryz.sizeOf9]⟩
theorem r_s:b_t Tryz.prog 75 [(.slice none 0 0),(.map none)] [(0,1),(1,1)]:=⟨fun w=>Tryz.zeroValue75 w,_,Tryz.underlying75,fun w=>by simp [Tryz.sizeOf30,Tryz.sizeOf73]⟩
theorem m_K:b_t Tryz.prog 79 [(.int .i64 0)] [(0,1)]:=⟨fun w=>Tryz.zeroValue79 w,_,Tryz.underlying79,fun w=>by simp [Tryz.sizeOf3]⟩
theorem a_b:El Tryz.prog 25 5 1 1 (.int .u8 0):=⟨Tryz.underlying25,by kernel_rfl,rfl,by decide,by decide⟩
theorem el_28:El Tryz.prog 28 57 8 136 (.agg #[(Str.v ⟨[]⟩),.int .i64 0,.int .i64 0,.bool false,.slice none 0 0,.slice none 0 0,.slice none 0 0,(.slice none 0 0)]):=⟨Tryz.underlying28,by kernel_rfl,rfl,by decide,by decide⟩
theorem a_A:El Tryz.prog 38 9 1 16 (Str.v ⟨[]⟩):=⟨Tryz.underlying38,by kernel_rfl,rfl,by decide,by decide⟩
theorem k_0:El Tryz.prog 44 3 1 8 (.int .i64 0):=⟨Tryz.underlying44,by kernel_rfl,rfl,by decide,by decide⟩
theorem b_o:El Tryz.prog 47 49 3 56 (.agg #[(.int .i64 0),.slice none 0 0,(.slice none 0 0)]):=⟨Tryz.underlying47,by kernel_rfl,rfl,by decide,by decide⟩
theorem d_P:El Tryz.prog 52 56 4 72 (.agg #[(Str.v ⟨[]⟩),.int .i64 0,.slice none 0 0,(.slice none 0 0)]):=⟨Tryz.underlying52,by kernel_rfl,rfl,by decide,by decide⟩
theorem m_L:Fld Tryz.prog 103 0 0:=⟨_,_,Tryz.underlying103,rfl,rfl,1,fun w=>Tryz.sizeOf30 w,by decide⟩
theorem f_l:Fld Tryz.prog 103 1 1:=⟨_,_,Tryz.underlying103,rfl,rfl,1,fun w=>Tryz.sizeOf25 w,by decide⟩
theorem r_t:Fld Tryz.prog 110 0 0:=⟨_,_,Tryz.underlying110,rfl,rfl,1,fun w=>Tryz.sizeOf3 w,by decide⟩
theorem r_u:Fld Tryz.prog 110 1 1:=⟨_,_,Tryz.underlying110,rfl,rfl,1,fun w=>Tryz.sizeOf3 w,by decide⟩
theorem r_v:Fld Tryz.prog 161 0 0:=⟨_,_,Tryz.underlying161,rfl,rfl,1,fun w=>Tryz.sizeOf38 w,by decide⟩
theorem m_M:Fld Tryz.prog 24 0 0:=⟨_,_,Tryz.underlying24,rfl,rfl,1,fun w=>Tryz.sizeOf22 w,by decide⟩
theorem a_c:Fld Tryz.prog 30 0 0:=⟨_,_,Tryz.underlying30,rfl,rfl,1,fun w=>Tryz.sizeOf28 w,by decide⟩
theorem m_N:Fld Tryz.prog 46 0 0:=⟨_,_,Tryz.underlying46,rfl,rfl,1,fun w=>Tryz.sizeOf9 w,by decide⟩
theorem f_46_1:Fld Tryz.prog 46 1 1:=⟨_,_,Tryz.underlying46,rfl,rfl,1,fun w=>Tryz.sizeOf3 w,by decide⟩
theorem f_46_2:Fld Tryz.prog 46 2 2:=⟨_,_,Tryz.underlying46,rfl,rfl,1,fun w=>Tryz.sizeOf3 w,by decide⟩
theorem f_46_3:Fld Tryz.prog 46 3 3:=⟨_,_,Tryz.underlying46,rfl,rfl,1,fun w=>Tryz.sizeOf4 w,by decide⟩
theorem m_O:Fld Tryz.prog 46 4 4:=⟨_,_,Tryz.underlying46,rfl,rfl,1,fun w=>Tryz.sizeOf25 w,by decide⟩
theorem m_P:Fld Tryz.prog 46 5 5:=⟨_,_,Tryz.underlying46,rfl,rfl,1,fun w=>Tryz.sizeOf38 w,by decide⟩
theorem m_Q:Fld Tryz.prog 46 6 6:=⟨_,_,Tryz.underlying46,rfl,rfl,1,fun w=>Tryz.sizeOf44 w,by decide⟩
theorem m_R:Fld Tryz.prog 46 7 7:=⟨_,_,Tryz.underlying46,rfl,rfl,1,fun w=>Tryz.sizeOf44 w,by decide⟩
theorem a_v:Fld Tryz.prog 49 0 0:=⟨_,_,Tryz.underlying49,rfl,rfl,1,fun w=>Tryz.sizeOf3 w,by decide⟩
theorem a_Q:Fld Tryz.prog 49 1 1:=⟨_,_,Tryz.underlying49,rfl,rfl,1,fun w=>Tryz.sizeOf25 w,by decide⟩
theorem F_:Fld Tryz.prog 49 2 2:=⟨_,_,Tryz.underlying49,rfl,rfl,1,fun w=>Tryz.sizeOf47 w,by decide⟩
theorem i_j:Fld Tryz.prog 56 0 0:=⟨_,_,Tryz.underlying56,rfl,rfl,1,fun w=>Tryz.sizeOf9 w,by decide⟩
theorem m_S:Fld Tryz.prog 56 1 1:=⟨_,_,Tryz.underlying56,rfl,rfl,3,fun w=>Tryz.sizeOf49 w,by decide⟩
theorem d_j:Fld Tryz.prog 57 0 0:=⟨_,_,Tryz.underlying57,rfl,rfl,1,fun w=>Tryz.sizeOf9 w,by decide⟩
theorem a_n:Fld Tryz.prog 57 1 1:=⟨_,_,Tryz.underlying57,rfl,rfl,1,fun w=>Tryz.sizeOf3 w,by decide⟩
theorem a_H:Fld Tryz.prog 57 2 2:=⟨_,_,Tryz.underlying57,rfl,rfl,1,fun w=>Tryz.sizeOf3 w,by decide⟩
theorem d_k:Fld Tryz.prog 57 3 3:=⟨_,_,Tryz.underlying57,rfl,rfl,1,fun w=>Tryz.sizeOf4 w,by decide⟩
theorem b_g:Fld Tryz.prog 57 4 4:=⟨_,_,Tryz.underlying57,rfl,rfl,1,fun w=>Tryz.sizeOf25 w,by decide⟩
theorem b_p:Fld Tryz.prog 57 5 5:=⟨_,_,Tryz.underlying57,rfl,rfl,1,fun w=>Tryz.sizeOf38 w,by decide⟩
theorem b_0:Fld Tryz.prog 57 6 6:=⟨_,_,Tryz.underlying57,rfl,rfl,1,fun w=>Tryz.sizeOf44 w,by decide⟩
theorem Y_:Fld Tryz.prog 57 7 7:=⟨_,_,Tryz.underlying57,rfl,rfl,1,fun w=>Tryz.sizeOf44 w,by decide⟩
theorem m_T:Fld Tryz.prog 75 0 0:=⟨_,_,Tryz.underlying75,rfl,rfl,1,fun w=>Tryz.sizeOf30 w,by decide⟩
theorem i_k:Fld Tryz.prog 75 1 1:=⟨_,_,Tryz.underlying75,rfl,rfl,1,fun w=>Tryz.sizeOf73 w,by decide⟩
theorem m_U:e_e Tryz.prog 73:=o_N Tryz.underlying73 (by kernel_rfl) Tryz.underlying79 Tryz.underlying3 rfl (by kernel_rfl) (by kernel_rfl) (Nat.le_of_ble_eq_true (by kernel_rfl)) (by kernel_rfl) (by kernel_rfl) rfl (m:=245) (by kernel_rfl)
abbrev z_157:=@Tryz.sizeOf157
abbrev z_158:=@Tryz.sizeOf158
abbrev z_159:=@Tryz.sizeOf159
abbrev z_161:=@Tryz.sizeOf161
abbrev z_162:=@Tryz.sizeOf162
abbrev z_163:=@Tryz.sizeOf163
abbrev z_164:=@Tryz.sizeOf164
abbrev z_24:=@Tryz.sizeOf24
abbrev z_25:=@Tryz.sizeOf25
abbrev z_28:=@Tryz.sizeOf28
abbrev z_3:=@Tryz.sizeOf3
abbrev n_:=@Tryz.sizeOf30
abbrev e_s:=@Tryz.sizeOf38
abbrev z_4:=@Tryz.sizeOf4
abbrev z_44:=@Tryz.sizeOf44
abbrev z_46:=@Tryz.sizeOf46
abbrev z_47:=@Tryz.sizeOf47
abbrev c_:=@Tryz.sizeOf49
abbrev z_5:=@Tryz.sizeOf5
abbrev f_m:=@Tryz.sizeOf56
abbrev p_:=@Tryz.sizeOf57
abbrev z_9:=@Tryz.sizeOf9
abbrev d_106:=@Tryz.underlying106
abbrev d_108:=@Tryz.underlying108
abbrev d_157:=@Tryz.underlying157
abbrev d_158:=@Tryz.underlying158
abbrev d_159:=@Tryz.underlying159
abbrev d_161:=@Tryz.underlying161
abbrev d_162:=@Tryz.underlying162
abbrev d_163:=@Tryz.underlying163
abbrev d_164:=@Tryz.underlying164
abbrev d_194:=@Tryz.underlying194
abbrev d_Q:=@Tryz.underlying22
abbrev l_:=@Tryz.underlying25
abbrev a_1:=@Tryz.underlying28
abbrev d_3:=@Tryz.underlying3
abbrev J_:=@Tryz.underlying38
abbrev d_4:=@Tryz.underlying4
abbrev z_:=@Tryz.underlying44
abbrev K_:=@Tryz.underlying47
abbrev d_5:=@Tryz.underlying5
abbrev d_52:=@Tryz.underlying52
abbrev d_73:=@Tryz.underlying73
abbrev d_77:=@Tryz.underlying77
abbrev d_l:=@Tryz.underlying86
abbrev d_9:=@Tryz.underlying9
theorem r_w (w:World):(zeroValue 106).run Tryz.prog w = .ok (.pointer none) w:=Tryz.zeroValue106 w
theorem r_x (w:World):(zeroValue 157).run Tryz.prog w = .ok (.agg #[]) w:=Tryz.zeroValue157 w
theorem r_y (w:World):(zeroValue 158).run Tryz.prog w = .ok (.agg #[]) w:=Tryz.zeroValue158 w
theorem r_z (w:World):(zeroValue 159).run Tryz.prog w = .ok (.agg #[]) w:=Tryz.zeroValue159 w
theorem r_A (w:World):(zeroValue 161).run Tryz.prog w = .ok (.agg #[(.slice none 0 0)]) w:=Tryz.zeroValue161 w
theorem r_B (w:World):(zeroValue 162).run Tryz.prog w = .ok (.agg #[]) w:=Tryz.zeroValue162 w
theorem r_C (w:World):(zeroValue 163).run Tryz.prog w = .ok (.agg #[]) w:=Tryz.zeroValue163 w
theorem r_D (w:World):(zeroValue 164).run Tryz.prog w = .ok (.agg #[]) w:=Tryz.zeroValue164 w
theorem k_1 (w:World):(zeroValue 30).run Tryz.prog w = .ok (.agg #[(.slice none 0 0)]) w:=Tryz.zeroValue30 w
theorem m_V (w:World):(zeroValue 38).run Tryz.prog w = .ok (.slice none 0 0) w:=Tryz.zeroValue38 w
theorem zero_4 (w:World):(zeroValue 4).run Tryz.prog w = .ok (.bool false) w:=Tryz.zeroValue4 w
theorem O_ (w:World):(zeroValue 49).run Tryz.prog w = .ok (.agg #[(.int .i64 0),.slice none 0 0,(.slice none 0 0)]) w:=Tryz.zeroValue49 w
theorem r_E (w:World):(zeroValue 56).run Tryz.prog w = .ok (.agg #[(Str.v ⟨[]⟩),.int .i64 0,.slice none 0 0,(.slice none 0 0)]) w:=Tryz.zeroValue56 w
theorem b_X (w:World):(zeroValue 57).run Tryz.prog w = .ok (.agg #[(Str.v ⟨[]⟩),.int .i64 0,.int .i64 0,.bool false,.slice none 0 0,.slice none 0 0,.slice none 0 0,(.slice none 0 0)]) w:=Tryz.zeroValue57 w
end Go.Vw
