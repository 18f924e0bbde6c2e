
import Derived.Test.YtlagjoejlchiiaaGreatDoorVmA
import Derived.Test.YtlagjoejlchiiaaGreatDoorProg
set_option linter.unusedVariables false
namespace Go.Vw
open Go.RowKit Dat Go.Proofs
theorem mo:Tryz.prog.follows .mixedOrders=true:=by kernel_rfl
def shV (s:Value):Nat->Value
  | 1=>.iface 114<|.agg #[]
  | 2=>.iface 115<|.agg #[]
  | 5=>.iface 116<|.agg #[]
  | 6=>.iface 119<|.agg #[s]
  | 7=>.iface 120<|.agg #[]
  | 8=>.iface 121<|.agg #[]
  | 9=>.iface 122<|.agg #[]
  | 10=>.nilIface
  | _=>.iface 157<|.agg #[]
theorem ta_114 {X:Nat->Prop}{N:Nat}{e:Env}{w:World}{dst:Option Tmp}{ty S:TypeId}{pos:String}{aft:Array Edge}{gd:Option (Nat×Bool)}{x:Operand}{s:Value}{k:Nat}(hx:ev e x=some (shV s k))(h:(k==1)=true):Rd X Tryz.prog N ⟨dst,.typeAssert x S 114 true,ty,pos,aft,gd⟩ e w (.tuple #[.agg #[],.bool true]):=fun a ha w' _=>by
  obtain rfl:k=1:=by simpa using h
  simp [execOp,ha.ev hx,shV,Instr.typeAssert,run_underlying Tryz.underlying114]
theorem q_j {X:Nat->Prop}{N:Nat}{e:Env}{w:World}{dst:Option Tmp}{ty S:TypeId}{pos:String}{aft:Array Edge}{gd:Option (Nat×Bool)}{x:Operand}{s:Value}{k:Nat}(hx:ev e x=some (shV s k))(h:(k==1)=false):Rd X Tryz.prog N ⟨dst,.typeAssert x S 114 true,ty,pos,aft,gd⟩ e w (.tuple #[.agg #[],.bool false]):=fun a ha w' _=>by
  have hk:k ≠ 1:=by simpa using h
  have hz:=Tryz.zeroValue114 w'
  simp only [execOp,ha.ev hx]
  unfold shV
  split <;> simp_all [Instr.typeAssert,run_underlying Tryz.underlying114]
theorem ta_115 {X:Nat->Prop}{N:Nat}{e:Env}{w:World}{dst:Option Tmp}{ty S:TypeId}{pos:String}{aft:Array Edge}{gd:Option (Nat×Bool)}{x:Operand}{s:Value}{k:Nat}(hx:ev e x=some (shV s k))(h:(k==2)=true):Rd X Tryz.prog N ⟨dst,.typeAssert x S 115 true,ty,pos,aft,gd⟩ e w (.tuple #[.agg #[],.bool true]):=fun a ha w' _=>by
  obtain rfl:k=2:=by simpa using h
  simp [execOp,ha.ev hx,shV,Instr.typeAssert,run_underlying Tryz.underlying115]
theorem q_k {X:Nat->Prop}{N:Nat}{e:Env}{w:World}{dst:Option Tmp}{ty S:TypeId}{pos:String}{aft:Array Edge}{gd:Option (Nat×Bool)}{x:Operand}{s:Value}{k:Nat}(hx:ev e x=some (shV s k))(h:(k==2)=false):Rd X Tryz.prog N ⟨dst,.typeAssert x S 115 true,ty,pos,aft,gd⟩ e w (.tuple #[.agg #[],.bool false]):=fun a ha w' _=>by
  have hk:k ≠ 2:=by simpa using h
  have hz:=Tryz.zeroValue115 w'
  simp only [execOp,ha.ev hx]
  unfold shV
  split <;> simp_all [Instr.typeAssert,run_underlying Tryz.underlying115]
theorem ta_116 {X:Nat->Prop}{N:Nat}{e:Env}{w:World}{dst:Option Tmp}{ty S:TypeId}{pos:String}{aft:Array Edge}{gd:Option (Nat×Bool)}{x:Operand}{s:Value}{k:Nat}(hx:ev e x=some (shV s k))(h:(k==5)=true):Rd X Tryz.prog N ⟨dst,.typeAssert x S 116 true,ty,pos,aft,gd⟩ e w (.tuple #[.agg #[],.bool true]):=fun a ha w' _=>by
  obtain rfl:k=5:=by simpa using h
  simp [execOp,ha.ev hx,shV,Instr.typeAssert,run_underlying Tryz.underlying116]
theorem q_l {X:Nat->Prop}{N:Nat}{e:Env}{w:World}{dst:Option Tmp}{ty S:TypeId}{pos:String}{aft:Array Edge}{gd:Option (Nat×Bool)}{x:Operand}{s:Value}{k:Nat}(hx:ev e x=some (shV s k))(h:(k==5)=false):Rd X Tryz.prog N ⟨dst,.typeAssert x S 116 true,ty,pos,aft,gd⟩ e w (.tuple #[.agg #[],.bool false]):=fun a ha w' _=>by
  have hk:k ≠ 5:=by simpa using h
  have hz:=Tryz.zeroValue116 w'
  simp only [execOp,ha.ev hx]
  unfold shV
  split <;> simp_all [Instr.typeAssert,run_underlying Tryz.underlying116]
theorem ta_119 {X:Nat->Prop}{N:Nat}{e:Env}{w:World}{dst:Option Tmp}{ty S:TypeId}{pos:String}{aft:Array Edge}{gd:Option (Nat×Bool)}{x:Operand}{s:Value}{k:Nat}(hx:ev e x=some (shV s k))(h:(k==6)=true):Rd X Tryz.prog N ⟨dst,.typeAssert x S 119 true,ty,pos,aft,gd⟩ e w (.tuple #[.agg #[s],.bool true]):=fun a ha w' _=>by
  obtain rfl:k=6:=by simpa using h
  simp [execOp,ha.ev hx,shV,Instr.typeAssert,run_underlying Tryz.underlying119]
theorem q_m {X:Nat->Prop}{N:Nat}{e:Env}{w:World}{dst:Option Tmp}{ty S:TypeId}{pos:String}{aft:Array Edge}{gd:Option (Nat×Bool)}{x:Operand}{s:Value}{k:Nat}(hx:ev e x=some (shV s k))(h:(k==6)=false):Rd X Tryz.prog N ⟨dst,.typeAssert x S 119 true,ty,pos,aft,gd⟩ e w (.tuple #[.agg #[.slice none 0 0],.bool false]):=fun a ha w' _=>by
  have hk:k ≠ 6:=by simpa using h
  have hz:=Tryz.zeroValue119 w'
  simp only [execOp,ha.ev hx]
  unfold shV
  split <;> simp_all [Instr.typeAssert,run_underlying Tryz.underlying119]
theorem ta_120 {X:Nat->Prop}{N:Nat}{e:Env}{w:World}{dst:Option Tmp}{ty S:TypeId}{pos:String}{aft:Array Edge}{gd:Option (Nat×Bool)}{x:Operand}{s:Value}{k:Nat}(hx:ev e x=some (shV s k))(h:(k==7)=true):Rd X Tryz.prog N ⟨dst,.typeAssert x S 120 true,ty,pos,aft,gd⟩ e w (.tuple #[.agg #[],.bool true]):=fun a ha w' _=>by
  obtain rfl:k=7:=by simpa using h
  simp [execOp,ha.ev hx,shV,Instr.typeAssert,run_underlying Tryz.underlying120]
theorem q_n {X:Nat->Prop}{N:Nat}{e:Env}{w:World}{dst:Option Tmp}{ty S:TypeId}{pos:String}{aft:Array Edge}{gd:Option (Nat×Bool)}{x:Operand}{s:Value}{k:Nat}(hx:ev e x=some (shV s k))(h:(k==7)=false):Rd X Tryz.prog N ⟨dst,.typeAssert x S 120 true,ty,pos,aft,gd⟩ e w (.tuple #[.agg #[],.bool false]):=fun a ha w' _=>by
  have hk:k ≠ 7:=by simpa using h
  have hz:=Tryz.zeroValue120 w'
  simp only [execOp,ha.ev hx]
  unfold shV
  split <;> simp_all [Instr.typeAssert,run_underlying Tryz.underlying120]
theorem ta_121 {X:Nat->Prop}{N:Nat}{e:Env}{w:World}{dst:Option Tmp}{ty S:TypeId}{pos:String}{aft:Array Edge}{gd:Option (Nat×Bool)}{x:Operand}{s:Value}{k:Nat}(hx:ev e x=some (shV s k))(h:(k==8)=true):Rd X Tryz.prog N ⟨dst,.typeAssert x S 121 true,ty,pos,aft,gd⟩ e w (.tuple #[.agg #[],.bool true]):=fun a ha w' _=>by
  obtain rfl:k=8:=by simpa using h
  simp [execOp,ha.ev hx,shV,Instr.typeAssert,run_underlying Tryz.underlying121]
theorem q_o {X:Nat->Prop}{N:Nat}{e:Env}{w:World}{dst:Option Tmp}{ty S:TypeId}{pos:String}{aft:Array Edge}{gd:Option (Nat×Bool)}{x:Operand}{s:Value}{k:Nat}(hx:ev e x=some (shV s k))(h:(k==8)=false):Rd X Tryz.prog N ⟨dst,.typeAssert x S 121 true,ty,pos,aft,gd⟩ e w (.tuple #[.agg #[],.bool false]):=fun a ha w' _=>by
  have hk:k ≠ 8:=by simpa using h
  have hz:=Tryz.zeroValue121 w'
  simp only [execOp,ha.ev hx]
  unfold shV
  split <;> simp_all [Instr.typeAssert,run_underlying Tryz.underlying121]
theorem ta_122 {X:Nat->Prop}{N:Nat}{e:Env}{w:World}{dst:Option Tmp}{ty S:TypeId}{pos:String}{aft:Array Edge}{gd:Option (Nat×Bool)}{x:Operand}{s:Value}{k:Nat}(hx:ev e x=some (shV s k))(h:(k==9)=true):Rd X Tryz.prog N ⟨dst,.typeAssert x S 122 true,ty,pos,aft,gd⟩ e w (.tuple #[.agg #[],.bool true]):=fun a ha w' _=>by
  obtain rfl:k=9:=by simpa using h
  simp [execOp,ha.ev hx,shV,Instr.typeAssert,run_underlying Tryz.underlying122]
theorem q_p {X:Nat->Prop}{N:Nat}{e:Env}{w:World}{dst:Option Tmp}{ty S:TypeId}{pos:String}{aft:Array Edge}{gd:Option (Nat×Bool)}{x:Operand}{s:Value}{k:Nat}(hx:ev e x=some (shV s k))(h:(k==9)=false):Rd X Tryz.prog N ⟨dst,.typeAssert x S 122 true,ty,pos,aft,gd⟩ e w (.tuple #[.agg #[],.bool false]):=fun a ha w' _=>by
  have hk:k ≠ 9:=by simpa using h
  have hz:=Tryz.zeroValue122 w'
  simp only [execOp,ha.ev hx]
  unfold shV
  split <;> simp_all [Instr.typeAssert,run_underlying Tryz.underlying122]
abbrev g_105:=@Tryz.isAgg105
abbrev a_2:=@Tryz.isAgg174
abbrev g_22:=@Tryz.isAgg22
abbrev g_24:=@Tryz.isAgg24
abbrev O_:=@Tryz.isAgg25
abbrev a_9:=@Tryz.isAgg28
abbrev g_3:=@Tryz.isAgg3
abbrev B_:=@Tryz.isAgg30
abbrev d_K:=@Tryz.isAgg38
abbrev g_4:=@Tryz.isAgg4
abbrev a_y:=@Tryz.isAgg41
abbrev t_:=@Tryz.isAgg43
abbrev g_5:=@Tryz.isAgg5
abbrev a_A:=@Tryz.isAgg52
abbrev u_:=@Tryz.isAgg53
abbrev g_55:=@Tryz.isAgg55
abbrev D_:=@Tryz.isAgg65
abbrev e_f:=@Tryz.isAgg68
abbrev g_74:=@Tryz.isAgg74
abbrev g_9:=@Tryz.isAgg9
theorem q_q:b_k Tryz.prog 100 [(.slice none 0 0),(.slice none 0 0)] [(0,1),(1,1)]:=⟨fun w=>Tryz.zeroValue100 w,_,Tryz.underlying100,fun w=>by simp [Tryz.sizeOf25,Tryz.sizeOf30]⟩
theorem q_r:b_k Tryz.prog 109 [(.int .i64 0),(.int .i64 0)] [(0,1),(1,1)]:=⟨fun w=>Tryz.zeroValue109 w,_,Tryz.underlying109,fun w=>by simp [Tryz.sizeOf3]⟩
theorem q_s:b_k Tryz.prog 114 [] []:=⟨fun w=>Tryz.zeroValue114 w,_,Tryz.underlying114,fun w=>by simp []⟩
theorem q_t:b_k Tryz.prog 115 [] []:=⟨fun w=>Tryz.zeroValue115 w,_,Tryz.underlying115,fun w=>by simp []⟩
theorem q_u:b_k Tryz.prog 116 [] []:=⟨fun w=>Tryz.zeroValue116 w,_,Tryz.underlying116,fun w=>by simp []⟩
theorem q_v:b_k Tryz.prog 119 [(.slice none 0 0)] [(0,1)]:=⟨fun w=>Tryz.zeroValue119 w,_,Tryz.underlying119,fun w=>by simp [Tryz.sizeOf52]⟩
theorem q_w:b_k Tryz.prog 120 [] []:=⟨fun w=>Tryz.zeroValue120 w,_,Tryz.underlying120,fun w=>by simp []⟩
theorem q_x:b_k Tryz.prog 121 [] []:=⟨fun w=>Tryz.zeroValue121 w,_,Tryz.underlying121,fun w=>by simp []⟩
theorem q_y:b_k Tryz.prog 122 [] []:=⟨fun w=>Tryz.zeroValue122 w,_,Tryz.underlying122,fun w=>by simp []⟩
theorem q_z:b_k Tryz.prog 157 [] []:=⟨fun w=>Tryz.zeroValue157 w,_,Tryz.underlying157,fun w=>by simp []⟩
theorem q_A:b_k Tryz.prog 172 [(.slice none 0 0),.slice none 0 0,(.int .i64 0)] [(0,1),(1,1),(2,1)]:=⟨fun w=>Tryz.zeroValue172 w,_,Tryz.underlying172,fun w=>by simp [Tryz.sizeOf25,Tryz.sizeOf3,Tryz.sizeOf30]⟩
theorem c_j:b_k Tryz.prog 174 [(.int .i64 0),(.int .i64 0)] [(0,1),(1,1)]:=⟨fun w=>Tryz.zeroValue174 w,_,Tryz.underlying174,fun w=>by simp [Tryz.sizeOf3]⟩
theorem d_L:b_k Tryz.prog 38 [(Str.v ⟨[]⟩),.int .i64 0,.int .i64 0,(.int .i64 0)] [(0,1),(1,1),(2,1),(3,1)]:=⟨fun w=>Tryz.zeroValue38 w,_,Tryz.underlying38,fun w=>by simp [Tryz.sizeOf3,Tryz.sizeOf9]⟩
theorem Y_:b_k Tryz.prog 43 [(.int .i64 0),.slice none 0 0,(.slice none 0 0)] [(0,1),(1,1),(2,1)]:=⟨fun w=>Tryz.zeroValue43 w,_,Tryz.underlying43,fun w=>by simp [Tryz.sizeOf25,Tryz.sizeOf3,Tryz.sizeOf41]⟩
theorem q_B:b_k Tryz.prog 96 [(.slice none 0 0),.slice none 0 0,.int .i64 0,(.int .i64 0)] [(0,1),(1,1),(2,1),(3,1)]:=⟨fun w=>Tryz.zeroValue96 w,_,Tryz.underlying96,fun w=>by simp [Tryz.sizeOf25,Tryz.sizeOf3,Tryz.sizeOf30]⟩
theorem b_q:El Tryz.prog 25 5 1 1 (.int .u8 0):=⟨Tryz.underlying25,by kernel_rfl,rfl,by decide,by decide⟩
theorem el_28:El Tryz.prog 28 65 8 136 (.agg #[(Str.v ⟨[]⟩),.int .i64 0,.int .i64 0,.bool false,.slice none 0 0,.slice none 0 0,.slice none 0 0,(.slice none 0 0)]):=⟨Tryz.underlying28,by kernel_rfl,rfl,by decide,by decide⟩
theorem h_R:El Tryz.prog 41 43 3 56 (.agg #[(.int .i64 0),.slice none 0 0,(.slice none 0 0)]):=⟨Tryz.underlying41,by kernel_rfl,rfl,by decide,by decide⟩
theorem a_S:El Tryz.prog 52 9 1 16 (Str.v ⟨[]⟩):=⟨Tryz.underlying52,by kernel_rfl,rfl,by decide,by decide⟩
theorem j_A:El Tryz.prog 53 3 1 8 (.int .i64 0):=⟨Tryz.underlying53,by kernel_rfl,rfl,by decide,by decide⟩
theorem m_b:Fld Tryz.prog 100 0 0:=⟨_,_,Tryz.underlying100,rfl,rfl,1,fun w=>Tryz.sizeOf30 w,by decide⟩
theorem f_3:Fld Tryz.prog 100 1 1:=⟨_,_,Tryz.underlying100,rfl,rfl,1,fun w=>Tryz.sizeOf25 w,by decide⟩
theorem q_C:Fld Tryz.prog 109 0 0:=⟨_,_,Tryz.underlying109,rfl,rfl,1,fun w=>Tryz.sizeOf3 w,by decide⟩
theorem q_D:Fld Tryz.prog 109 1 1:=⟨_,_,Tryz.underlying109,rfl,rfl,1,fun w=>Tryz.sizeOf3 w,by decide⟩
theorem q_E:Fld Tryz.prog 119 0 0:=⟨_,_,Tryz.underlying119,rfl,rfl,1,fun w=>Tryz.sizeOf52 w,by decide⟩
theorem m_c:Fld Tryz.prog 172 0 0:=⟨_,_,Tryz.underlying172,rfl,rfl,1,fun w=>Tryz.sizeOf30 w,by decide⟩
theorem d_b:Fld Tryz.prog 172 1 1:=⟨_,_,Tryz.underlying172,rfl,rfl,1,fun w=>Tryz.sizeOf25 w,by decide⟩
theorem h_S:Fld Tryz.prog 172 2 2:=⟨_,_,Tryz.underlying172,rfl,rfl,1,fun w=>Tryz.sizeOf3 w,by decide⟩
theorem c_A:Fld Tryz.prog 174 0 0:=⟨_,_,Tryz.underlying174,rfl,rfl,1,fun w=>Tryz.sizeOf3 w,by decide⟩
theorem c_P:Fld Tryz.prog 174 1 1:=⟨_,_,Tryz.underlying174,rfl,rfl,1,fun w=>Tryz.sizeOf3 w,by decide⟩
theorem m_d:Fld Tryz.prog 24 0 0:=⟨_,_,Tryz.underlying24,rfl,rfl,1,fun w=>Tryz.sizeOf22 w,by decide⟩
theorem a_5:Fld Tryz.prog 30 0 0:=⟨_,_,Tryz.underlying30,rfl,rfl,1,fun w=>Tryz.sizeOf28 w,by decide⟩
theorem h_T:Fld Tryz.prog 38 1 1:=⟨_,_,Tryz.underlying38,rfl,rfl,1,fun w=>Tryz.sizeOf3 w,by decide⟩
theorem m_e:Fld Tryz.prog 38 2 2:=⟨_,_,Tryz.underlying38,rfl,rfl,1,fun w=>Tryz.sizeOf3 w,by decide⟩
theorem b_9:Fld Tryz.prog 43 0 0:=⟨_,_,Tryz.underlying43,rfl,rfl,1,fun w=>Tryz.sizeOf3 w,by decide⟩
theorem b_V:Fld Tryz.prog 43 1 1:=⟨_,_,Tryz.underlying43,rfl,rfl,1,fun w=>Tryz.sizeOf25 w,by decide⟩
theorem a_s:Fld Tryz.prog 43 2 2:=⟨_,_,Tryz.underlying43,rfl,rfl,1,fun w=>Tryz.sizeOf41 w,by decide⟩
theorem m_f:Fld Tryz.prog 55 0 0:=⟨_,_,Tryz.underlying55,rfl,rfl,1,fun w=>Tryz.sizeOf9 w,by decide⟩
theorem f_55_1:Fld Tryz.prog 55 1 1:=⟨_,_,Tryz.underlying55,rfl,rfl,1,fun w=>Tryz.sizeOf3 w,by decide⟩
theorem f_55_2:Fld Tryz.prog 55 2 2:=⟨_,_,Tryz.underlying55,rfl,rfl,1,fun w=>Tryz.sizeOf3 w,by decide⟩
theorem f_55_3:Fld Tryz.prog 55 3 3:=⟨_,_,Tryz.underlying55,rfl,rfl,1,fun w=>Tryz.sizeOf4 w,by decide⟩
theorem m_g:Fld Tryz.prog 55 4 4:=⟨_,_,Tryz.underlying55,rfl,rfl,1,fun w=>Tryz.sizeOf25 w,by decide⟩
theorem m_h:Fld Tryz.prog 55 5 5:=⟨_,_,Tryz.underlying55,rfl,rfl,1,fun w=>Tryz.sizeOf52 w,by decide⟩
theorem m_i:Fld Tryz.prog 55 6 6:=⟨_,_,Tryz.underlying55,rfl,rfl,1,fun w=>Tryz.sizeOf53 w,by decide⟩
theorem m_j:Fld Tryz.prog 55 7 7:=⟨_,_,Tryz.underlying55,rfl,rfl,1,fun w=>Tryz.sizeOf53 w,by decide⟩
theorem d_c:Fld Tryz.prog 65 0 0:=⟨_,_,Tryz.underlying65,rfl,rfl,1,fun w=>Tryz.sizeOf9 w,by decide⟩
theorem a_a:Fld Tryz.prog 65 1 1:=⟨_,_,Tryz.underlying65,rfl,rfl,1,fun w=>Tryz.sizeOf3 w,by decide⟩
theorem a_w:Fld Tryz.prog 65 2 2:=⟨_,_,Tryz.underlying65,rfl,rfl,1,fun w=>Tryz.sizeOf3 w,by decide⟩
theorem c_B:Fld Tryz.prog 65 3 3:=⟨_,_,Tryz.underlying65,rfl,rfl,1,fun w=>Tryz.sizeOf4 w,by decide⟩
theorem a_T:Fld Tryz.prog 65 4 4:=⟨_,_,Tryz.underlying65,rfl,rfl,1,fun w=>Tryz.sizeOf25 w,by decide⟩
theorem b_y:Fld Tryz.prog 65 5 5:=⟨_,_,Tryz.underlying65,rfl,rfl,1,fun w=>Tryz.sizeOf52 w,by decide⟩
theorem a_L:Fld Tryz.prog 65 6 6:=⟨_,_,Tryz.underlying65,rfl,rfl,1,fun w=>Tryz.sizeOf53 w,by decide⟩
theorem G_:Fld Tryz.prog 65 7 7:=⟨_,_,Tryz.underlying65,rfl,rfl,1,fun w=>Tryz.sizeOf53 w,by decide⟩
theorem j_B:Fld Tryz.prog 96 0 0:=⟨_,_,Tryz.underlying96,rfl,rfl,1,fun w=>Tryz.sizeOf30 w,by decide⟩
theorem h_U:Fld Tryz.prog 96 1 1:=⟨_,_,Tryz.underlying96,rfl,rfl,1,fun w=>Tryz.sizeOf25 w,by decide⟩
theorem e_g:Fld Tryz.prog 96 2 2:=⟨_,_,Tryz.underlying96,rfl,rfl,1,fun w=>Tryz.sizeOf3 w,by decide⟩
theorem c_Q:Fld Tryz.prog 96 3 3:=⟨_,_,Tryz.underlying96,rfl,rfl,1,fun w=>Tryz.sizeOf3 w,by decide⟩
abbrev z_114:=@Tryz.sizeOf114
abbrev z_115:=@Tryz.sizeOf115
abbrev z_116:=@Tryz.sizeOf116
abbrev z_119:=@Tryz.sizeOf119
abbrev z_120:=@Tryz.sizeOf120
abbrev z_121:=@Tryz.sizeOf121
abbrev z_122:=@Tryz.sizeOf122
abbrev y_:=@Tryz.sizeOf174
abbrev z_24:=@Tryz.sizeOf24
abbrev z_25:=@Tryz.sizeOf25
abbrev z_28:=@Tryz.sizeOf28
abbrev z_3:=@Tryz.sizeOf3
abbrev z_:=@Tryz.sizeOf30
abbrev b_a:=@Tryz.sizeOf38
abbrev z_4:=@Tryz.sizeOf4
abbrev z_41:=@Tryz.sizeOf41
abbrev h_:=@Tryz.sizeOf43
abbrev z_5:=@Tryz.sizeOf5
abbrev e_h:=@Tryz.sizeOf52
abbrev z_53:=@Tryz.sizeOf53
abbrev z_55:=@Tryz.sizeOf55
abbrev l_:=@Tryz.sizeOf65
abbrev z_9:=@Tryz.sizeOf9
abbrev d_d:=@Tryz.underlying102
abbrev d_105:=@Tryz.underlying105
abbrev d_107:=@Tryz.underlying107
abbrev d_114:=@Tryz.underlying114
abbrev d_115:=@Tryz.underlying115
abbrev d_116:=@Tryz.underlying116
abbrev d_119:=@Tryz.underlying119
abbrev d_120:=@Tryz.underlying120
abbrev d_121:=@Tryz.underlying121
abbrev d_122:=@Tryz.underlying122
abbrev d_157:=@Tryz.underlying157
abbrev d_M:=@Tryz.underlying22
abbrev k_:=@Tryz.underlying25
abbrev Z_:=@Tryz.underlying28
abbrev d_3:=@Tryz.underlying3
abbrev d_4:=@Tryz.underlying4
abbrev a_D:=@Tryz.underlying41
abbrev d_5:=@Tryz.underlying5
abbrev R_:=@Tryz.underlying52
abbrev o_:=@Tryz.underlying53
abbrev d_9:=@Tryz.underlying9
theorem q_F (w:World):(zeroValue 105).run Tryz.prog w = .ok (.pointer none) w:=Tryz.zeroValue105 w
theorem q_G (w:World):(zeroValue 114).run Tryz.prog w = .ok (.agg #[]) w:=Tryz.zeroValue114 w
theorem q_H (w:World):(zeroValue 115).run Tryz.prog w = .ok (.agg #[]) w:=Tryz.zeroValue115 w
theorem q_I (w:World):(zeroValue 116).run Tryz.prog w = .ok (.agg #[]) w:=Tryz.zeroValue116 w
theorem q_J (w:World):(zeroValue 119).run Tryz.prog w = .ok (.agg #[(.slice none 0 0)]) w:=Tryz.zeroValue119 w
theorem q_K (w:World):(zeroValue 120).run Tryz.prog w = .ok (.agg #[]) w:=Tryz.zeroValue120 w
theorem q_L (w:World):(zeroValue 121).run Tryz.prog w = .ok (.agg #[]) w:=Tryz.zeroValue121 w
theorem q_M (w:World):(zeroValue 122).run Tryz.prog w = .ok (.agg #[]) w:=Tryz.zeroValue122 w
theorem b_i (w:World):(zeroValue 174).run Tryz.prog w = .ok (.agg #[(.int .i64 0),(.int .i64 0)]) w:=Tryz.zeroValue174 w
theorem zero_3 (w:World):(zeroValue 3).run Tryz.prog w = .ok (.int .i64 0) w:=Tryz.zeroValue3 w
theorem j_C (w:World):(zeroValue 30).run Tryz.prog w = .ok (.agg #[(.slice none 0 0)]) w:=Tryz.zeroValue30 w
theorem g_G (w:World):(zeroValue 38).run Tryz.prog w = .ok (.agg #[(Str.v ⟨[]⟩),.int .i64 0,.int .i64 0,(.int .i64 0)]) w:=Tryz.zeroValue38 w
theorem zero_4 (w:World):(zeroValue 4).run Tryz.prog w = .ok (.bool false) w:=Tryz.zeroValue4 w
theorem a_l (w:World):(zeroValue 43).run Tryz.prog w = .ok (.agg #[(.int .i64 0),.slice none 0 0,(.slice none 0 0)]) w:=Tryz.zeroValue43 w
theorem m_k (w:World):(zeroValue 52).run Tryz.prog w = .ok (.slice none 0 0) w:=Tryz.zeroValue52 w
theorem b_H (w:World):(zeroValue 65).run Tryz.prog w = .ok (.agg #[(Str.v ⟨[]⟩),.int .i64 0,.int .i64 0,.bool false,.slice none 0 0,.slice none 0 0,.slice none 0 0,(.slice none 0 0)]) w:=Tryz.zeroValue65 w
end Go.Vw
