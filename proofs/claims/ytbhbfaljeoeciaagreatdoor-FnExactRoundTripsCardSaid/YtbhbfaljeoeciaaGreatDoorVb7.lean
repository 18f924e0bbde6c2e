
import Derived.Test.YtbhbfaljeoeciaaGreatDoorV0
import Derived.Test.YtbhbfaljeoeciaaGreatDoorProg
set_option linter.unusedVariables false
namespace Go.Vw
open Go.RowKit Dat Go.Proofs
theorem mo:Tryz.prog.follows .mixedOrders=true:=by kernel_rfl
def shV (s:Value):Nat->Value
  | 1=>.iface 104<|.agg #[]
  | 2=>.iface 107<|.agg #[]
  | 5=>.iface 109<|.agg #[]
  | 6=>.iface 111<|.agg #[s]
  | 7=>.iface 113<|.agg #[]
  | 8=>.iface 116<|.agg #[]
  | 9=>.iface 117<|.agg #[]
  | 10=>.nilIface
  | _=>.iface 160<|.agg #[]
theorem n_2 {X:Nat->Prop}{N:Nat}{e:Env}{w:World}{dst:Option Tmp}{ty S:TypeId}{pos:String}{aft:Array Edge}{gd:Option (Nat×Bool)}{x:Operand}{s:Value}{k:Nat}(hx:ev e x=some (shV s k))(h:(k==1)=true):Rd X Tryz.prog N ⟨dst,.typeAssert x S 104 true,ty,pos,aft,gd⟩ e w (.tuple #[.agg #[],.bool true]):=fun a ha w' _=>by
  obtain rfl:k=1:=by simpa using h
  simp [execOp,ha.ev hx,shV,Instr.typeAssert,run_underlying Tryz.underlying104]
theorem n_3 {X:Nat->Prop}{N:Nat}{e:Env}{w:World}{dst:Option Tmp}{ty S:TypeId}{pos:String}{aft:Array Edge}{gd:Option (Nat×Bool)}{x:Operand}{s:Value}{k:Nat}(hx:ev e x=some (shV s k))(h:(k==1)=false):Rd X Tryz.prog N ⟨dst,.typeAssert x S 104 true,ty,pos,aft,gd⟩ e w (.tuple #[.agg #[],.bool false]):=fun a ha w' _=>by
  have hk:k ≠ 1:=by simpa using h
  have hz:=Tryz.zeroValue104 w'
  simp only [execOp,ha.ev hx]
  unfold shV
  split <;> simp_all [Instr.typeAssert,run_underlying Tryz.underlying104]
theorem n_4 {X:Nat->Prop}{N:Nat}{e:Env}{w:World}{dst:Option Tmp}{ty S:TypeId}{pos:String}{aft:Array Edge}{gd:Option (Nat×Bool)}{x:Operand}{s:Value}{k:Nat}(hx:ev e x=some (shV s k))(h:(k==2)=true):Rd X Tryz.prog N ⟨dst,.typeAssert x S 107 true,ty,pos,aft,gd⟩ e w (.tuple #[.agg #[],.bool true]):=fun a ha w' _=>by
  obtain rfl:k=2:=by simpa using h
  simp [execOp,ha.ev hx,shV,Instr.typeAssert,run_underlying Tryz.underlying107]
theorem n_5 {X:Nat->Prop}{N:Nat}{e:Env}{w:World}{dst:Option Tmp}{ty S:TypeId}{pos:String}{aft:Array Edge}{gd:Option (Nat×Bool)}{x:Operand}{s:Value}{k:Nat}(hx:ev e x=some (shV s k))(h:(k==2)=false):Rd X Tryz.prog N ⟨dst,.typeAssert x S 107 true,ty,pos,aft,gd⟩ e w (.tuple #[.agg #[],.bool false]):=fun a ha w' _=>by
  have hk:k ≠ 2:=by simpa using h
  have hz:=Tryz.zeroValue107 w'
  simp only [execOp,ha.ev hx]
  unfold shV
  split <;> simp_all [Instr.typeAssert,run_underlying Tryz.underlying107]
theorem n_6 {X:Nat->Prop}{N:Nat}{e:Env}{w:World}{dst:Option Tmp}{ty S:TypeId}{pos:String}{aft:Array Edge}{gd:Option (Nat×Bool)}{x:Operand}{s:Value}{k:Nat}(hx:ev e x=some (shV s k))(h:(k==5)=true):Rd X Tryz.prog N ⟨dst,.typeAssert x S 109 true,ty,pos,aft,gd⟩ e w (.tuple #[.agg #[],.bool true]):=fun a ha w' _=>by
  obtain rfl:k=5:=by simpa using h
  simp [execOp,ha.ev hx,shV,Instr.typeAssert,run_underlying Tryz.underlying109]
theorem n_7 {X:Nat->Prop}{N:Nat}{e:Env}{w:World}{dst:Option Tmp}{ty S:TypeId}{pos:String}{aft:Array Edge}{gd:Option (Nat×Bool)}{x:Operand}{s:Value}{k:Nat}(hx:ev e x=some (shV s k))(h:(k==5)=false):Rd X Tryz.prog N ⟨dst,.typeAssert x S 109 true,ty,pos,aft,gd⟩ e w (.tuple #[.agg #[],.bool false]):=fun a ha w' _=>by
  have hk:k ≠ 5:=by simpa using h
  have hz:=Tryz.zeroValue109 w'
  simp only [execOp,ha.ev hx]
  unfold shV
  split <;> simp_all [Instr.typeAssert,run_underlying Tryz.underlying109]
theorem n_8 {X:Nat->Prop}{N:Nat}{e:Env}{w:World}{dst:Option Tmp}{ty S:TypeId}{pos:String}{aft:Array Edge}{gd:Option (Nat×Bool)}{x:Operand}{s:Value}{k:Nat}(hx:ev e x=some (shV s k))(h:(k==6)=true):Rd X Tryz.prog N ⟨dst,.typeAssert x S 111 true,ty,pos,aft,gd⟩ e w (.tuple #[.agg #[s],.bool true]):=fun a ha w' _=>by
  obtain rfl:k=6:=by simpa using h
  simp [execOp,ha.ev hx,shV,Instr.typeAssert,run_underlying Tryz.underlying111]
theorem n_9 {X:Nat->Prop}{N:Nat}{e:Env}{w:World}{dst:Option Tmp}{ty S:TypeId}{pos:String}{aft:Array Edge}{gd:Option (Nat×Bool)}{x:Operand}{s:Value}{k:Nat}(hx:ev e x=some (shV s k))(h:(k==6)=false):Rd X Tryz.prog N ⟨dst,.typeAssert x S 111 true,ty,pos,aft,gd⟩ e w (.tuple #[.agg #[.slice none 0 0],.bool false]):=fun a ha w' _=>by
  have hk:k ≠ 6:=by simpa using h
  have hz:=Tryz.zeroValue111 w'
  simp only [execOp,ha.ev hx]
  unfold shV
  split <;> simp_all [Instr.typeAssert,run_underlying Tryz.underlying111]
theorem n_a {X:Nat->Prop}{N:Nat}{e:Env}{w:World}{dst:Option Tmp}{ty S:TypeId}{pos:String}{aft:Array Edge}{gd:Option (Nat×Bool)}{x:Operand}{s:Value}{k:Nat}(hx:ev e x=some (shV s k))(h:(k==7)=true):Rd X Tryz.prog N ⟨dst,.typeAssert x S 113 true,ty,pos,aft,gd⟩ e w (.tuple #[.agg #[],.bool true]):=fun a ha w' _=>by
  obtain rfl:k=7:=by simpa using h
  simp [execOp,ha.ev hx,shV,Instr.typeAssert,run_underlying Tryz.underlying113]
theorem n_b {X:Nat->Prop}{N:Nat}{e:Env}{w:World}{dst:Option Tmp}{ty S:TypeId}{pos:String}{aft:Array Edge}{gd:Option (Nat×Bool)}{x:Operand}{s:Value}{k:Nat}(hx:ev e x=some (shV s k))(h:(k==7)=false):Rd X Tryz.prog N ⟨dst,.typeAssert x S 113 true,ty,pos,aft,gd⟩ e w (.tuple #[.agg #[],.bool false]):=fun a ha w' _=>by
  have hk:k ≠ 7:=by simpa using h
  have hz:=Tryz.zeroValue113 w'
  simp only [execOp,ha.ev hx]
  unfold shV
  split <;> simp_all [Instr.typeAssert,run_underlying Tryz.underlying113]
theorem n_c {X:Nat->Prop}{N:Nat}{e:Env}{w:World}{dst:Option Tmp}{ty S:TypeId}{pos:String}{aft:Array Edge}{gd:Option (Nat×Bool)}{x:Operand}{s:Value}{k:Nat}(hx:ev e x=some (shV s k))(h:(k==8)=true):Rd X Tryz.prog N ⟨dst,.typeAssert x S 116 true,ty,pos,aft,gd⟩ e w (.tuple #[.agg #[],.bool true]):=fun a ha w' _=>by
  obtain rfl:k=8:=by simpa using h
  simp [execOp,ha.ev hx,shV,Instr.typeAssert,run_underlying Tryz.underlying116]
theorem n_d {X:Nat->Prop}{N:Nat}{e:Env}{w:World}{dst:Option Tmp}{ty S:TypeId}{pos:String}{aft:Array Edge}{gd:Option (Nat×Bool)}{x:Operand}{s:Value}{k:Nat}(hx:ev e x=some (shV s k))(h:(k==8)=false):Rd X Tryz.prog N ⟨dst,.typeAssert x S 116 true,ty,pos,aft,gd⟩ e w (.tuple #[.agg #[],.bool false]):=fun a ha w' _=>by
  have hk:k ≠ 8:=by simpa using h
  have hz:=Tryz.zeroValue116 w'
  simp only [execOp,ha.ev hx]
  unfold shV
  split <;> simp_all [Instr.typeAssert,run_underlying Tryz.underlying116]
theorem n_e {X:Nat->Prop}{N:Nat}{e:Env}{w:World}{dst:Option Tmp}{ty S:TypeId}{pos:String}{aft:Array Edge}{gd:Option (Nat×Bool)}{x:Operand}{s:Value}{k:Nat}(hx:ev e x=some (shV s k))(h:(k==9)=true):Rd X Tryz.prog N ⟨dst,.typeAssert x S 117 true,ty,pos,aft,gd⟩ e w (.tuple #[.agg #[],.bool true]):=fun a ha w' _=>by
  obtain rfl:k=9:=by simpa using h
  simp [execOp,ha.ev hx,shV,Instr.typeAssert,run_underlying Tryz.underlying117]
theorem n_f {X:Nat->Prop}{N:Nat}{e:Env}{w:World}{dst:Option Tmp}{ty S:TypeId}{pos:String}{aft:Array Edge}{gd:Option (Nat×Bool)}{x:Operand}{s:Value}{k:Nat}(hx:ev e x=some (shV s k))(h:(k==9)=false):Rd X Tryz.prog N ⟨dst,.typeAssert x S 117 true,ty,pos,aft,gd⟩ e w (.tuple #[.agg #[],.bool false]):=fun a ha w' _=>by
  have hk:k ≠ 9:=by simpa using h
  have hz:=Tryz.zeroValue117 w'
  simp only [execOp,ha.ev hx]
  unfold shV
  split <;> simp_all [Instr.typeAssert,run_underlying Tryz.underlying117]
abbrev c_y:=@Tryz.isAgg156
abbrev g_22:=@Tryz.isAgg22
abbrev g_24:=@Tryz.isAgg24
abbrev J_:=@Tryz.isAgg25
abbrev a_b:=@Tryz.isAgg28
abbrev g_3:=@Tryz.isAgg3
abbrev w_:=@Tryz.isAgg30
abbrev X_:=@Tryz.isAgg37
abbrev i_:=@Tryz.isAgg39
abbrev g_4:=@Tryz.isAgg4
abbrev g_5:=@Tryz.isAgg5
abbrev b_L:=@Tryz.isAgg53
abbrev A_:=@Tryz.isAgg54
abbrev g_56:=@Tryz.isAgg56
abbrev D_:=@Tryz.isAgg63
abbrev e_F:=@Tryz.isAgg70
abbrev g_9:=@Tryz.isAgg9
abbrev g_97:=@Tryz.isAgg97
theorem r_f:b_Q Tryz.prog 101 [(.int .i64 0),(.int .i64 0)] [(0,1),(1,1)]:=⟨fun w=>Tryz.zeroValue101 w,_,Tryz.underlying101,fun w=>by simp [Tryz.sizeOf3]⟩
theorem r_g:b_Q Tryz.prog 104 [] []:=⟨fun w=>Tryz.zeroValue104 w,_,Tryz.underlying104,fun w=>by simp []⟩
theorem r_h:b_Q Tryz.prog 107 [] []:=⟨fun w=>Tryz.zeroValue107 w,_,Tryz.underlying107,fun w=>by simp []⟩
theorem r_i:b_Q Tryz.prog 109 [] []:=⟨fun w=>Tryz.zeroValue109 w,_,Tryz.underlying109,fun w=>by simp []⟩
theorem r_j:b_Q Tryz.prog 111 [(.slice none 0 0)] [(0,1)]:=⟨fun w=>Tryz.zeroValue111 w,_,Tryz.underlying111,fun w=>by simp [Tryz.sizeOf53]⟩
theorem r_k:b_Q Tryz.prog 113 [] []:=⟨fun w=>Tryz.zeroValue113 w,_,Tryz.underlying113,fun w=>by simp []⟩
theorem r_l:b_Q Tryz.prog 116 [] []:=⟨fun w=>Tryz.zeroValue116 w,_,Tryz.underlying116,fun w=>by simp []⟩
theorem r_m:b_Q Tryz.prog 117 [] []:=⟨fun w=>Tryz.zeroValue117 w,_,Tryz.underlying117,fun w=>by simp []⟩
theorem r_n:b_Q Tryz.prog 158 [(.slice none 0 0),(.slice none 0 0)] [(0,1),(1,1)]:=⟨fun w=>Tryz.zeroValue158 w,_,Tryz.underlying158,fun w=>by simp [Tryz.sizeOf25,Tryz.sizeOf30]⟩
theorem r_o:b_Q Tryz.prog 160 [] []:=⟨fun w=>Tryz.zeroValue160 w,_,Tryz.underlying160,fun w=>by simp []⟩
theorem P_:b_Q Tryz.prog 39 [(.int .i64 0),.slice none 0 0,(.slice none 0 0)] [(0,1),(1,1),(2,1)]:=⟨fun w=>Tryz.zeroValue39 w,_,Tryz.underlying39,fun w=>by simp [Tryz.sizeOf25,Tryz.sizeOf3,Tryz.sizeOf37]⟩
theorem r_p:b_Q Tryz.prog 67 [(.slice none 0 0),Str.v ⟨[]⟩,(.int .i64 0)] [(0,1),(1,1),(2,1)]:=⟨fun w=>Tryz.zeroValue67 w,_,Tryz.underlying67,fun w=>by simp [Tryz.sizeOf3,Tryz.sizeOf30,Tryz.sizeOf9]⟩
theorem r_q:b_Q Tryz.prog 92 [(.slice none 0 0),(.slice none 0 0)] [(0,1),(1,1)]:=⟨fun w=>Tryz.zeroValue92 w,_,Tryz.underlying92,fun w=>by simp [Tryz.sizeOf25,Tryz.sizeOf30]⟩
theorem I_:El Tryz.prog 25 5 1 1 (.int .u8 0):=⟨Tryz.underlying25,by kernel_rfl,rfl,by decide,by decide⟩
theorem el_28:El Tryz.prog 28 63 8 136 (.agg #[(Str.v ⟨[]⟩),.int .i64 0,.int .i64 0,.bool false,.slice none 0 0,.slice none 0 0,.slice none 0 0,(.slice none 0 0)]):=⟨Tryz.underlying28,by kernel_rfl,rfl,by decide,by decide⟩
theorem c_a:El Tryz.prog 37 39 3 56 (.agg #[(.int .i64 0),.slice none 0 0,(.slice none 0 0)]):=⟨Tryz.underlying37,by kernel_rfl,rfl,by decide,by decide⟩
theorem e_G:El Tryz.prog 53 9 1 16 (Str.v ⟨[]⟩):=⟨Tryz.underlying53,by kernel_rfl,rfl,by decide,by decide⟩
theorem k_n:El Tryz.prog 54 3 1 8 (.int .i64 0):=⟨Tryz.underlying54,by kernel_rfl,rfl,by decide,by decide⟩
theorem r_r:Fld Tryz.prog 101 0 0:=⟨_,_,Tryz.underlying101,rfl,rfl,1,fun w=>Tryz.sizeOf3 w,by decide⟩
theorem r_s:Fld Tryz.prog 101 1 1:=⟨_,_,Tryz.underlying101,rfl,rfl,1,fun w=>Tryz.sizeOf3 w,by decide⟩
theorem r_t:Fld Tryz.prog 111 0 0:=⟨_,_,Tryz.underlying111,rfl,rfl,1,fun w=>Tryz.sizeOf53 w,by decide⟩
theorem k_o:Fld Tryz.prog 158 0 0:=⟨_,_,Tryz.underlying158,rfl,rfl,1,fun w=>Tryz.sizeOf30 w,by decide⟩
theorem f_w:Fld Tryz.prog 158 1 1:=⟨_,_,Tryz.underlying158,rfl,rfl,1,fun w=>Tryz.sizeOf25 w,by decide⟩
theorem n_g:Fld Tryz.prog 24 0 0:=⟨_,_,Tryz.underlying24,rfl,rfl,1,fun w=>Tryz.sizeOf22 w,by decide⟩
theorem a_9:Fld Tryz.prog 30 0 0:=⟨_,_,Tryz.underlying30,rfl,rfl,1,fun w=>Tryz.sizeOf28 w,by decide⟩
theorem a_F:Fld Tryz.prog 39 0 0:=⟨_,_,Tryz.underlying39,rfl,rfl,1,fun w=>Tryz.sizeOf3 w,by decide⟩
theorem a_B:Fld Tryz.prog 39 1 1:=⟨_,_,Tryz.underlying39,rfl,rfl,1,fun w=>Tryz.sizeOf25 w,by decide⟩
theorem Q_:Fld Tryz.prog 39 2 2:=⟨_,_,Tryz.underlying39,rfl,rfl,1,fun w=>Tryz.sizeOf37 w,by decide⟩
theorem n_h:Fld Tryz.prog 56 0 0:=⟨_,_,Tryz.underlying56,rfl,rfl,1,fun w=>Tryz.sizeOf9 w,by decide⟩
theorem f_56_1:Fld Tryz.prog 56 1 1:=⟨_,_,Tryz.underlying56,rfl,rfl,1,fun w=>Tryz.sizeOf3 w,by decide⟩
theorem f_56_2:Fld Tryz.prog 56 2 2:=⟨_,_,Tryz.underlying56,rfl,rfl,1,fun w=>Tryz.sizeOf3 w,by decide⟩
theorem f_56_3:Fld Tryz.prog 56 3 3:=⟨_,_,Tryz.underlying56,rfl,rfl,1,fun w=>Tryz.sizeOf4 w,by decide⟩
theorem n_i:Fld Tryz.prog 56 4 4:=⟨_,_,Tryz.underlying56,rfl,rfl,1,fun w=>Tryz.sizeOf25 w,by decide⟩
theorem n_j:Fld Tryz.prog 56 5 5:=⟨_,_,Tryz.underlying56,rfl,rfl,1,fun w=>Tryz.sizeOf53 w,by decide⟩
theorem n_k:Fld Tryz.prog 56 6 6:=⟨_,_,Tryz.underlying56,rfl,rfl,1,fun w=>Tryz.sizeOf54 w,by decide⟩
theorem n_l:Fld Tryz.prog 56 7 7:=⟨_,_,Tryz.underlying56,rfl,rfl,1,fun w=>Tryz.sizeOf54 w,by decide⟩
theorem d_z:Fld Tryz.prog 63 0 0:=⟨_,_,Tryz.underlying63,rfl,rfl,1,fun w=>Tryz.sizeOf9 w,by decide⟩
theorem a_M:Fld Tryz.prog 63 1 1:=⟨_,_,Tryz.underlying63,rfl,rfl,1,fun w=>Tryz.sizeOf3 w,by decide⟩
theorem a_G:Fld Tryz.prog 63 2 2:=⟨_,_,Tryz.underlying63,rfl,rfl,1,fun w=>Tryz.sizeOf3 w,by decide⟩
theorem c_R:Fld Tryz.prog 63 3 3:=⟨_,_,Tryz.underlying63,rfl,rfl,1,fun w=>Tryz.sizeOf4 w,by decide⟩
theorem a_Z:Fld Tryz.prog 63 4 4:=⟨_,_,Tryz.underlying63,rfl,rfl,1,fun w=>Tryz.sizeOf25 w,by decide⟩
theorem c_b:Fld Tryz.prog 63 5 5:=⟨_,_,Tryz.underlying63,rfl,rfl,1,fun w=>Tryz.sizeOf53 w,by decide⟩
theorem b_f:Fld Tryz.prog 63 6 6:=⟨_,_,Tryz.underlying63,rfl,rfl,1,fun w=>Tryz.sizeOf54 w,by decide⟩
theorem R_:Fld Tryz.prog 63 7 7:=⟨_,_,Tryz.underlying63,rfl,rfl,1,fun w=>Tryz.sizeOf54 w,by decide⟩
theorem k_p:Fld Tryz.prog 67 0 0:=⟨_,_,Tryz.underlying67,rfl,rfl,1,fun w=>Tryz.sizeOf30 w,by decide⟩
theorem j_9:Fld Tryz.prog 67 1 1:=⟨_,_,Tryz.underlying67,rfl,rfl,1,fun w=>Tryz.sizeOf9 w,by decide⟩
theorem d_g:Fld Tryz.prog 67 2 2:=⟨_,_,Tryz.underlying67,rfl,rfl,1,fun w=>Tryz.sizeOf3 w,by decide⟩
theorem n_m:Fld Tryz.prog 92 0 0:=⟨_,_,Tryz.underlying92,rfl,rfl,1,fun w=>Tryz.sizeOf30 w,by decide⟩
theorem f_x:Fld Tryz.prog 92 1 1:=⟨_,_,Tryz.underlying92,rfl,rfl,1,fun w=>Tryz.sizeOf25 w,by decide⟩
abbrev z_104:=@Tryz.sizeOf104
abbrev z_107:=@Tryz.sizeOf107
abbrev z_109:=@Tryz.sizeOf109
abbrev z_111:=@Tryz.sizeOf111
abbrev z_113:=@Tryz.sizeOf113
abbrev z_116:=@Tryz.sizeOf116
abbrev z_117:=@Tryz.sizeOf117
abbrev z_24:=@Tryz.sizeOf24
abbrev z_25:=@Tryz.sizeOf25
abbrev z_28:=@Tryz.sizeOf28
abbrev z_3:=@Tryz.sizeOf3
abbrev v_:=@Tryz.sizeOf30
abbrev d_h:=@Tryz.sizeOf37
abbrev b_:=@Tryz.sizeOf39
abbrev z_4:=@Tryz.sizeOf4
abbrev z_5:=@Tryz.sizeOf5
abbrev z_53:=@Tryz.sizeOf53
abbrev z_54:=@Tryz.sizeOf54
abbrev z_56:=@Tryz.sizeOf56
abbrev t_:=@Tryz.sizeOf63
abbrev z_9:=@Tryz.sizeOf9
abbrev d_104:=@Tryz.underlying104
abbrev d_107:=@Tryz.underlying107
abbrev d_109:=@Tryz.underlying109
abbrev d_111:=@Tryz.underlying111
abbrev d_113:=@Tryz.underlying113
abbrev d_116:=@Tryz.underlying116
abbrev d_117:=@Tryz.underlying117
abbrev d_160:=@Tryz.underlying160
abbrev e_1:=@Tryz.underlying22
abbrev n_:=@Tryz.underlying25
abbrev a_3:=@Tryz.underlying28
abbrev d_3:=@Tryz.underlying3
abbrev Y_:=@Tryz.underlying37
abbrev d_4:=@Tryz.underlying4
abbrev d_5:=@Tryz.underlying5
abbrev a_d:=@Tryz.underlying53
abbrev y_:=@Tryz.underlying54
abbrev d_9:=@Tryz.underlying9
abbrev d_A:=@Tryz.underlying94
abbrev d_97:=@Tryz.underlying97
abbrev d_99:=@Tryz.underlying99
theorem r_u (w:World):(zeroValue 104).run Tryz.prog w = .ok (.agg #[]) w:=Tryz.zeroValue104 w
theorem r_v (w:World):(zeroValue 107).run Tryz.prog w = .ok (.agg #[]) w:=Tryz.zeroValue107 w
theorem r_w (w:World):(zeroValue 109).run Tryz.prog w = .ok (.agg #[]) w:=Tryz.zeroValue109 w
theorem r_x (w:World):(zeroValue 111).run Tryz.prog w = .ok (.agg #[(.slice none 0 0)]) w:=Tryz.zeroValue111 w
theorem r_y (w:World):(zeroValue 113).run Tryz.prog w = .ok (.agg #[]) w:=Tryz.zeroValue113 w
theorem r_z (w:World):(zeroValue 116).run Tryz.prog w = .ok (.agg #[]) w:=Tryz.zeroValue116 w
theorem r_A (w:World):(zeroValue 117).run Tryz.prog w = .ok (.agg #[]) w:=Tryz.zeroValue117 w
theorem k_q (w:World):(zeroValue 30).run Tryz.prog w = .ok (.agg #[(.slice none 0 0)]) w:=Tryz.zeroValue30 w
theorem E_ (w:World):(zeroValue 39).run Tryz.prog w = .ok (.agg #[(.int .i64 0),.slice none 0 0,(.slice none 0 0)]) w:=Tryz.zeroValue39 w
theorem b_Y (w:World):(zeroValue 63).run Tryz.prog w = .ok (.agg #[(Str.v ⟨[]⟩),.int .i64 0,.int .i64 0,.bool false,.slice none 0 0,.slice none 0 0,.slice none 0 0,(.slice none 0 0)]) w:=Tryz.zeroValue63 w
theorem r_B (w:World):(zeroValue 97).run Tryz.prog w = .ok (.pointer none) w:=Tryz.zeroValue97 w
end Go.Vw
