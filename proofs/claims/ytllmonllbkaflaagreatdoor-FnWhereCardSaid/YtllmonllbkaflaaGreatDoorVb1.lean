
import Derived.Test.YtllmonllbkaflaaGreatDoorV0
import Derived.Test.YtllmonllbkaflaaGreatDoorProg
set_option linter.unusedVariables false
namespace Go.Vw
open Go.RowKit Dat Go.Proofs
theorem mo:Tryz.prog.follows .mixedOrders=true:=by kernel_rfl
def shV (s:Value):Nat->Value
  | 1=>.iface 140<|.agg #[]
  | 2=>.iface 141<|.agg #[]
  | 5=>.iface 142<|.agg #[]
  | 6=>.iface 145<|.agg #[s]
  | 7=>.iface 146<|.agg #[]
  | 8=>.iface 148<|.agg #[]
  | 9=>.iface 149<|.agg #[]
  | 10=>.nilIface
  | _=>.iface 191<|.agg #[]
theorem ta_140 {X:Nat->Prop}{N:Nat}{e:Env}{w:World}{dst:Option Tmp}{ty S:TypeId}{pos:String}{aft:Array Edge}{gd:Option (Nat×Bool)}{x:Operand}{s:Value}{k:Nat}(hx:ev e x=some (shV s k))(h:(k==1)=true):Rd X Tryz.prog N ⟨dst,.typeAssert x S 140 true,ty,pos,aft,gd⟩ e w (.tuple #[.agg #[],.bool true]):=λa ha w' _=>by
  obtain rfl:k=1:=by simpa using h
  simp [execOp,ha.ev hx,shV,Instr.typeAssert,run_underlying Tryz.underlying140]
theorem r_I {X:Nat->Prop}{N:Nat}{e:Env}{w:World}{dst:Option Tmp}{ty S:TypeId}{pos:String}{aft:Array Edge}{gd:Option (Nat×Bool)}{x:Operand}{s:Value}{k:Nat}(hx:ev e x=some (shV s k))(h:(k==1)=false):Rd X Tryz.prog N ⟨dst,.typeAssert x S 140 true,ty,pos,aft,gd⟩ e w (.tuple #[.agg #[],.bool false]):=λa ha w' _=>by
  have hk:k ≠ 1:=by simpa using h
  have hz:=Tryz.zeroValue140 w'
  simp only [execOp,ha.ev hx]
  unfold shV
  split <;> simp_all [Instr.typeAssert,run_underlying Tryz.underlying140]
theorem ta_141 {X:Nat->Prop}{N:Nat}{e:Env}{w:World}{dst:Option Tmp}{ty S:TypeId}{pos:String}{aft:Array Edge}{gd:Option (Nat×Bool)}{x:Operand}{s:Value}{k:Nat}(hx:ev e x=some (shV s k))(h:(k==2)=true):Rd X Tryz.prog N ⟨dst,.typeAssert x S 141 true,ty,pos,aft,gd⟩ e w (.tuple #[.agg #[],.bool true]):=λa ha w' _=>by
  obtain rfl:k=2:=by simpa using h
  simp [execOp,ha.ev hx,shV,Instr.typeAssert,run_underlying Tryz.underlying141]
theorem r_J {X:Nat->Prop}{N:Nat}{e:Env}{w:World}{dst:Option Tmp}{ty S:TypeId}{pos:String}{aft:Array Edge}{gd:Option (Nat×Bool)}{x:Operand}{s:Value}{k:Nat}(hx:ev e x=some (shV s k))(h:(k==2)=false):Rd X Tryz.prog N ⟨dst,.typeAssert x S 141 true,ty,pos,aft,gd⟩ e w (.tuple #[.agg #[],.bool false]):=λa ha w' _=>by
  have hk:k ≠ 2:=by simpa using h
  have hz:=Tryz.zeroValue141 w'
  simp only [execOp,ha.ev hx]
  unfold shV
  split <;> simp_all [Instr.typeAssert,run_underlying Tryz.underlying141]
theorem ta_142 {X:Nat->Prop}{N:Nat}{e:Env}{w:World}{dst:Option Tmp}{ty S:TypeId}{pos:String}{aft:Array Edge}{gd:Option (Nat×Bool)}{x:Operand}{s:Value}{k:Nat}(hx:ev e x=some (shV s k))(h:(k==5)=true):Rd X Tryz.prog N ⟨dst,.typeAssert x S 142 true,ty,pos,aft,gd⟩ e w (.tuple #[.agg #[],.bool true]):=λa ha w' _=>by
  obtain rfl:k=5:=by simpa using h
  simp [execOp,ha.ev hx,shV,Instr.typeAssert,run_underlying Tryz.underlying142]
theorem r_K {X:Nat->Prop}{N:Nat}{e:Env}{w:World}{dst:Option Tmp}{ty S:TypeId}{pos:String}{aft:Array Edge}{gd:Option (Nat×Bool)}{x:Operand}{s:Value}{k:Nat}(hx:ev e x=some (shV s k))(h:(k==5)=false):Rd X Tryz.prog N ⟨dst,.typeAssert x S 142 true,ty,pos,aft,gd⟩ e w (.tuple #[.agg #[],.bool false]):=λa ha w' _=>by
  have hk:k ≠ 5:=by simpa using h
  have hz:=Tryz.zeroValue142 w'
  simp only [execOp,ha.ev hx]
  unfold shV
  split <;> simp_all [Instr.typeAssert,run_underlying Tryz.underlying142]
theorem ta_145 {X:Nat->Prop}{N:Nat}{e:Env}{w:World}{dst:Option Tmp}{ty S:TypeId}{pos:String}{aft:Array Edge}{gd:Option (Nat×Bool)}{x:Operand}{s:Value}{k:Nat}(hx:ev e x=some (shV s k))(h:(k==6)=true):Rd X Tryz.prog N ⟨dst,.typeAssert x S 145 true,ty,pos,aft,gd⟩ e w (.tuple #[.agg #[s],.bool true]):=λa ha w' _=>by
  obtain rfl:k=6:=by simpa using h
  simp [execOp,ha.ev hx,shV,Instr.typeAssert,run_underlying Tryz.underlying145]
theorem r_L {X:Nat->Prop}{N:Nat}{e:Env}{w:World}{dst:Option Tmp}{ty S:TypeId}{pos:String}{aft:Array Edge}{gd:Option (Nat×Bool)}{x:Operand}{s:Value}{k:Nat}(hx:ev e x=some (shV s k))(h:(k==6)=false):Rd X Tryz.prog N ⟨dst,.typeAssert x S 145 true,ty,pos,aft,gd⟩ e w (.tuple #[.agg #[.slice none 0 0],.bool false]):=λa ha w' _=>by
  have hk:k ≠ 6:=by simpa using h
  have hz:=Tryz.zeroValue145 w'
  simp only [execOp,ha.ev hx]
  unfold shV
  split <;> simp_all [Instr.typeAssert,run_underlying Tryz.underlying145]
theorem ta_146 {X:Nat->Prop}{N:Nat}{e:Env}{w:World}{dst:Option Tmp}{ty S:TypeId}{pos:String}{aft:Array Edge}{gd:Option (Nat×Bool)}{x:Operand}{s:Value}{k:Nat}(hx:ev e x=some (shV s k))(h:(k==7)=true):Rd X Tryz.prog N ⟨dst,.typeAssert x S 146 true,ty,pos,aft,gd⟩ e w (.tuple #[.agg #[],.bool true]):=λa ha w' _=>by
  obtain rfl:k=7:=by simpa using h
  simp [execOp,ha.ev hx,shV,Instr.typeAssert,run_underlying Tryz.underlying146]
theorem r_M {X:Nat->Prop}{N:Nat}{e:Env}{w:World}{dst:Option Tmp}{ty S:TypeId}{pos:String}{aft:Array Edge}{gd:Option (Nat×Bool)}{x:Operand}{s:Value}{k:Nat}(hx:ev e x=some (shV s k))(h:(k==7)=false):Rd X Tryz.prog N ⟨dst,.typeAssert x S 146 true,ty,pos,aft,gd⟩ e w (.tuple #[.agg #[],.bool false]):=λa ha w' _=>by
  have hk:k ≠ 7:=by simpa using h
  have hz:=Tryz.zeroValue146 w'
  simp only [execOp,ha.ev hx]
  unfold shV
  split <;> simp_all [Instr.typeAssert,run_underlying Tryz.underlying146]
theorem ta_148 {X:Nat->Prop}{N:Nat}{e:Env}{w:World}{dst:Option Tmp}{ty S:TypeId}{pos:String}{aft:Array Edge}{gd:Option (Nat×Bool)}{x:Operand}{s:Value}{k:Nat}(hx:ev e x=some (shV s k))(h:(k==8)=true):Rd X Tryz.prog N ⟨dst,.typeAssert x S 148 true,ty,pos,aft,gd⟩ e w (.tuple #[.agg #[],.bool true]):=λa ha w' _=>by
  obtain rfl:k=8:=by simpa using h
  simp [execOp,ha.ev hx,shV,Instr.typeAssert,run_underlying Tryz.underlying148]
theorem r_N {X:Nat->Prop}{N:Nat}{e:Env}{w:World}{dst:Option Tmp}{ty S:TypeId}{pos:String}{aft:Array Edge}{gd:Option (Nat×Bool)}{x:Operand}{s:Value}{k:Nat}(hx:ev e x=some (shV s k))(h:(k==8)=false):Rd X Tryz.prog N ⟨dst,.typeAssert x S 148 true,ty,pos,aft,gd⟩ e w (.tuple #[.agg #[],.bool false]):=λa ha w' _=>by
  have hk:k ≠ 8:=by simpa using h
  have hz:=Tryz.zeroValue148 w'
  simp only [execOp,ha.ev hx]
  unfold shV
  split <;> simp_all [Instr.typeAssert,run_underlying Tryz.underlying148]
theorem ta_149 {X:Nat->Prop}{N:Nat}{e:Env}{w:World}{dst:Option Tmp}{ty S:TypeId}{pos:String}{aft:Array Edge}{gd:Option (Nat×Bool)}{x:Operand}{s:Value}{k:Nat}(hx:ev e x=some (shV s k))(h:(k==9)=true):Rd X Tryz.prog N ⟨dst,.typeAssert x S 149 true,ty,pos,aft,gd⟩ e w (.tuple #[.agg #[],.bool true]):=λa ha w' _=>by
  obtain rfl:k=9:=by simpa using h
  simp [execOp,ha.ev hx,shV,Instr.typeAssert,run_underlying Tryz.underlying149]
theorem r_O {X:Nat->Prop}{N:Nat}{e:Env}{w:World}{dst:Option Tmp}{ty S:TypeId}{pos:String}{aft:Array Edge}{gd:Option (Nat×Bool)}{x:Operand}{s:Value}{k:Nat}(hx:ev e x=some (shV s k))(h:(k==9)=false):Rd X Tryz.prog N ⟨dst,.typeAssert x S 149 true,ty,pos,aft,gd⟩ e w (.tuple #[.agg #[],.bool false]):=λa ha w' _=>by
  have hk:k ≠ 9:=by simpa using h
  have hz:=Tryz.zeroValue149 w'
  simp only [execOp,ha.ev hx]
  unfold shV
  split <;> simp_all [Instr.typeAssert,run_underlying Tryz.underlying149]
abbrev g_107:=@Tryz.isAgg107
abbrev a_p:=@Tryz.isAgg198
abbrev K_:=@Tryz.isAgg22
abbrev I_:=@Tryz.isAgg24
abbrev l_:=@Tryz.isAgg26
abbrev a_J:=@Tryz.isAgg29
abbrev g_3:=@Tryz.isAgg3
abbrev g_31:=@Tryz.isAgg31
abbrev e_f:=@Tryz.isAgg35
abbrev g_4:=@Tryz.isAgg4
abbrev a_k:=@Tryz.isAgg43
abbrev s_:=@Tryz.isAgg45
abbrev g_5:=@Tryz.isAgg5
abbrev g_77:=@Tryz.isAgg77
abbrev f_M:=@Tryz.isAgg84
abbrev g_9:=@Tryz.isAgg9
abbrev v_:=@Tryz.isAgg93
abbrev z_:=@Tryz.isAgg95
theorem r_P:b_v Tryz.prog 111 [(.slice none 0 0),.slice none 0 0,(.slice none 0 0)] [(0,1),(1,1),(2,1)]:=⟨λw=>Tryz.zeroValue111 w,_,Tryz.underlying111,λw=>by simp [Tryz.sizeOf22,Tryz.sizeOf26,Tryz.sizeOf31]⟩
theorem r_Q:b_v Tryz.prog 140 [] []:=⟨λw=>Tryz.zeroValue140 w,_,Tryz.underlying140,λw=>by simp []⟩
theorem r_R:b_v Tryz.prog 141 [] []:=⟨λw=>Tryz.zeroValue141 w,_,Tryz.underlying141,λw=>by simp []⟩
theorem r_S:b_v Tryz.prog 142 [] []:=⟨λw=>Tryz.zeroValue142 w,_,Tryz.underlying142,λw=>by simp []⟩
theorem r_T:b_v Tryz.prog 145 [(.slice none 0 0)] [(0,1)]:=⟨λw=>Tryz.zeroValue145 w,_,Tryz.underlying145,λw=>by simp [Tryz.sizeOf29]⟩
theorem r_U:b_v Tryz.prog 146 [] []:=⟨λw=>Tryz.zeroValue146 w,_,Tryz.underlying146,λw=>by simp []⟩
theorem r_V:b_v Tryz.prog 148 [] []:=⟨λw=>Tryz.zeroValue148 w,_,Tryz.underlying148,λw=>by simp []⟩
theorem r_W:b_v Tryz.prog 149 [] []:=⟨λw=>Tryz.zeroValue149 w,_,Tryz.underlying149,λw=>by simp []⟩
theorem r_X:b_v Tryz.prog 191 [] []:=⟨λw=>Tryz.zeroValue191 w,_,Tryz.underlying191,λw=>by simp []⟩
theorem r_Y:b_v Tryz.prog 196 [(.slice none 0 0),.slice none 0 0,(.int .i64 0)] [(0,1),(1,1),(2,1)]:=⟨λw=>Tryz.zeroValue196 w,_,Tryz.underlying196,λw=>by simp [Tryz.sizeOf22,Tryz.sizeOf26,Tryz.sizeOf3]⟩
theorem c_Z:b_v Tryz.prog 198 [(.int .i64 0),(.int .i64 0)] [(0,1),(1,1)]:=⟨λw=>Tryz.zeroValue198 w,_,Tryz.underlying198,λw=>by simp [Tryz.sizeOf3]⟩
theorem n_x:b_v Tryz.prog 26 [(.slice none 0 0)] [(0,1)]:=⟨λw=>Tryz.zeroValue26 w,_,Tryz.underlying26,λw=>by simp [Tryz.sizeOf24]⟩
theorem h_1:b_v Tryz.prog 35 [(Str.v ⟨[]⟩),.int .i64 0,.int .i64 0,(.int .i64 0)] [(0,1),(1,1),(2,1),(3,1)]:=⟨λw=>Tryz.zeroValue35 w,_,Tryz.underlying35,λw=>by simp [Tryz.sizeOf3,Tryz.sizeOf9]⟩
theorem a_1:b_v Tryz.prog 45 [(.int .i64 0),.slice none 0 0,(.slice none 0 0)] [(0,1),(1,1),(2,1)]:=⟨λw=>Tryz.zeroValue45 w,_,Tryz.underlying45,λw=>by simp [Tryz.sizeOf22,Tryz.sizeOf3,Tryz.sizeOf43]⟩
theorem r_Z:b_v Tryz.prog 62 [(.slice none 0 0),.int .i64 0,(.int .i64 0)] [(0,1),(1,1),(2,1)]:=⟨λw=>Tryz.zeroValue62 w,_,Tryz.underlying62,λw=>by simp [Tryz.sizeOf22,Tryz.sizeOf3]⟩
theorem s_0:b_v Tryz.prog 72 [(.slice none 0 0),(.slice none 0 0)] [(0,1),(1,1)]:=⟨λw=>Tryz.zeroValue72 w,_,Tryz.underlying72,λw=>by simp [Tryz.sizeOf22,Tryz.sizeOf26]⟩
theorem s_1:b_v Tryz.prog 81 [(.int .i64 0),(.int .i64 0)] [(0,1),(1,1)]:=⟨λw=>Tryz.zeroValue81 w,_,Tryz.underlying81,λw=>by simp [Tryz.sizeOf3]⟩
theorem s_2:b_v Tryz.prog 95 [(Str.v ⟨[]⟩),.int .i64 0,.int .i64 0,.bool false,.slice none 0 0,.slice none 0 0,.slice none 0 0,(.slice none 0 0)] [(0,1),(1,1),(2,1),(3,1),(4,1),(5,1),(6,1),(7,1)]:=⟨λw=>Tryz.zeroValue95 w,_,Tryz.underlying95,λw=>by simp [Tryz.sizeOf22,Tryz.sizeOf29,Tryz.sizeOf3,Tryz.sizeOf4,Tryz.sizeOf9,Tryz.sizeOf93]⟩
theorem j_L:El Tryz.prog 153 4 1 1 (.bool false):=⟨Tryz.underlying153,by kernel_rfl,rfl,by decide,by decide⟩
theorem Y_:El Tryz.prog 22 5 1 1 (.int .u8 0):=⟨Tryz.underlying22,by kernel_rfl,rfl,by decide,by decide⟩
theorem j_M:El Tryz.prog 24 95 8 136 (.agg #[(Str.v ⟨[]⟩),.int .i64 0,.int .i64 0,.bool false,.slice none 0 0,.slice none 0 0,.slice none 0 0,(.slice none 0 0)]):=⟨Tryz.underlying24,by kernel_rfl,rfl,by decide,by decide⟩
theorem Q_:El Tryz.prog 29 9 1 16 (Str.v ⟨[]⟩):=⟨Tryz.underlying29,by kernel_rfl,rfl,by decide,by decide⟩
theorem c_K:El Tryz.prog 31 35 4 40 (.agg #[(Str.v ⟨[]⟩),.int .i64 0,.int .i64 0,(.int .i64 0)]):=⟨Tryz.underlying31,by kernel_rfl,rfl,by decide,by decide⟩
theorem d_l:El Tryz.prog 43 45 3 56 (.agg #[(.int .i64 0),.slice none 0 0,(.slice none 0 0)]):=⟨Tryz.underlying43,by kernel_rfl,rfl,by decide,by decide⟩
theorem b_e:El Tryz.prog 93 3 1 8 (.int .i64 0):=⟨Tryz.underlying93,by kernel_rfl,rfl,by decide,by decide⟩
theorem i_0:Fld Tryz.prog 111 0 0:=⟨_,_,Tryz.underlying111,rfl,rfl,1,λw=>Tryz.sizeOf26 w,by decide⟩
theorem s_3:Fld Tryz.prog 111 1 1:=⟨_,_,Tryz.underlying111,rfl,rfl,1,λw=>Tryz.sizeOf22 w,by decide⟩
theorem i_1:Fld Tryz.prog 111 2 2:=⟨_,_,Tryz.underlying111,rfl,rfl,1,λw=>Tryz.sizeOf31 w,by decide⟩
theorem s_4:Fld Tryz.prog 145 0 0:=⟨_,_,Tryz.underlying145,rfl,rfl,1,λw=>Tryz.sizeOf29 w,by decide⟩
theorem n_y:Fld Tryz.prog 196 0 0:=⟨_,_,Tryz.underlying196,rfl,rfl,1,λw=>Tryz.sizeOf26 w,by decide⟩
theorem e_g:Fld Tryz.prog 196 1 1:=⟨_,_,Tryz.underlying196,rfl,rfl,1,λw=>Tryz.sizeOf22 w,by decide⟩
theorem j_N:Fld Tryz.prog 196 2 2:=⟨_,_,Tryz.underlying196,rfl,rfl,1,λw=>Tryz.sizeOf3 w,by decide⟩
theorem d_m:Fld Tryz.prog 198 0 0:=⟨_,_,Tryz.underlying198,rfl,rfl,1,λw=>Tryz.sizeOf3 w,by decide⟩
theorem d_R:Fld Tryz.prog 198 1 1:=⟨_,_,Tryz.underlying198,rfl,rfl,1,λw=>Tryz.sizeOf3 w,by decide⟩
theorem H_:Fld Tryz.prog 26 0 0:=⟨_,_,Tryz.underlying26,rfl,rfl,1,λw=>Tryz.sizeOf24 w,by decide⟩
theorem i_2:Fld Tryz.prog 35 0 0:=⟨_,_,Tryz.underlying35,rfl,rfl,1,λw=>Tryz.sizeOf9 w,by decide⟩
theorem j_O:Fld Tryz.prog 35 1 1:=⟨_,_,Tryz.underlying35,rfl,rfl,1,λw=>Tryz.sizeOf3 w,by decide⟩
theorem n_z:Fld Tryz.prog 35 2 2:=⟨_,_,Tryz.underlying35,rfl,rfl,1,λw=>Tryz.sizeOf3 w,by decide⟩
theorem f_35_3:Fld Tryz.prog 35 3 3:=⟨_,_,Tryz.underlying35,rfl,rfl,1,λw=>Tryz.sizeOf3 w,by decide⟩
theorem b_4:Fld Tryz.prog 45 0 0:=⟨_,_,Tryz.underlying45,rfl,rfl,1,λw=>Tryz.sizeOf3 w,by decide⟩
theorem b_5:Fld Tryz.prog 45 1 1:=⟨_,_,Tryz.underlying45,rfl,rfl,1,λw=>Tryz.sizeOf22 w,by decide⟩
theorem a_4:Fld Tryz.prog 45 2 2:=⟨_,_,Tryz.underlying45,rfl,rfl,1,λw=>Tryz.sizeOf43 w,by decide⟩
theorem n_A:Fld Tryz.prog 62 0 0:=⟨_,_,Tryz.underlying62,rfl,rfl,1,λw=>Tryz.sizeOf22 w,by decide⟩
theorem j_P:Fld Tryz.prog 62 1 1:=⟨_,_,Tryz.underlying62,rfl,rfl,1,λw=>Tryz.sizeOf3 w,by decide⟩
theorem j_Q:Fld Tryz.prog 62 2 2:=⟨_,_,Tryz.underlying62,rfl,rfl,1,λw=>Tryz.sizeOf3 w,by decide⟩
theorem n_B:Fld Tryz.prog 72 0 0:=⟨_,_,Tryz.underlying72,rfl,rfl,1,λw=>Tryz.sizeOf26 w,by decide⟩
theorem h_2:Fld Tryz.prog 72 1 1:=⟨_,_,Tryz.underlying72,rfl,rfl,1,λw=>Tryz.sizeOf22 w,by decide⟩
theorem f_81_0:Fld Tryz.prog 81 0 0:=⟨_,_,Tryz.underlying81,rfl,rfl,1,λw=>Tryz.sizeOf3 w,by decide⟩
theorem f_81_1:Fld Tryz.prog 81 1 1:=⟨_,_,Tryz.underlying81,rfl,rfl,1,λw=>Tryz.sizeOf3 w,by decide⟩
theorem e_Y:Fld Tryz.prog 95 0 0:=⟨_,_,Tryz.underlying95,rfl,rfl,1,λw=>Tryz.sizeOf9 w,by decide⟩
theorem a_l:Fld Tryz.prog 95 1 1:=⟨_,_,Tryz.underlying95,rfl,rfl,1,λw=>Tryz.sizeOf3 w,by decide⟩
theorem a_B:Fld Tryz.prog 95 2 2:=⟨_,_,Tryz.underlying95,rfl,rfl,1,λw=>Tryz.sizeOf3 w,by decide⟩
theorem d_0:Fld Tryz.prog 95 3 3:=⟨_,_,Tryz.underlying95,rfl,rfl,1,λw=>Tryz.sizeOf4 w,by decide⟩
theorem b_2:Fld Tryz.prog 95 4 4:=⟨_,_,Tryz.underlying95,rfl,rfl,1,λw=>Tryz.sizeOf22 w,by decide⟩
theorem c_2:Fld Tryz.prog 95 5 5:=⟨_,_,Tryz.underlying95,rfl,rfl,1,λw=>Tryz.sizeOf29 w,by decide⟩
theorem b_6:Fld Tryz.prog 95 6 6:=⟨_,_,Tryz.underlying95,rfl,rfl,1,λw=>Tryz.sizeOf93 w,by decide⟩
theorem E_:Fld Tryz.prog 95 7 7:=⟨_,_,Tryz.underlying95,rfl,rfl,1,λw=>Tryz.sizeOf93 w,by decide⟩
abbrev z_140:=@Tryz.sizeOf140
abbrev z_141:=@Tryz.sizeOf141
abbrev z_142:=@Tryz.sizeOf142
abbrev z_145:=@Tryz.sizeOf145
abbrev z_146:=@Tryz.sizeOf146
abbrev z_148:=@Tryz.sizeOf148
abbrev z_149:=@Tryz.sizeOf149
abbrev A_:=@Tryz.sizeOf198
abbrev z_22:=@Tryz.sizeOf22
abbrev z_24:=@Tryz.sizeOf24
abbrev j_:=@Tryz.sizeOf26
abbrev c_y:=@Tryz.sizeOf29
abbrev z_3:=@Tryz.sizeOf3
abbrev z_31:=@Tryz.sizeOf31
abbrev b_i:=@Tryz.sizeOf35
abbrev z_4:=@Tryz.sizeOf4
abbrev f_N:=@Tryz.sizeOf43
abbrev e_:=@Tryz.sizeOf45
abbrev z_5:=@Tryz.sizeOf5
abbrev z_9:=@Tryz.sizeOf9
abbrev e_h:=@Tryz.sizeOf93
abbrev h_:=@Tryz.sizeOf95
abbrev d_140:=@Tryz.underlying140
abbrev d_141:=@Tryz.underlying141
abbrev d_142:=@Tryz.underlying142
abbrev d_145:=@Tryz.underlying145
abbrev d_146:=@Tryz.underlying146
abbrev d_148:=@Tryz.underlying148
abbrev d_149:=@Tryz.underlying149
abbrev b_j:=@Tryz.underlying153
abbrev j_R:=@Tryz.underlying171
abbrev d_191:=@Tryz.underlying191
abbrev k_:=@Tryz.underlying22
abbrev J_:=@Tryz.underlying24
abbrev C_:=@Tryz.underlying29
abbrev d_3:=@Tryz.underlying3
abbrev c_z:=@Tryz.underlying31
abbrev a_v:=@Tryz.underlying43
abbrev d_5:=@Tryz.underlying5
abbrev e_i:=@Tryz.underlying74
abbrev d_77:=@Tryz.underlying77
abbrev d_79:=@Tryz.underlying79
abbrev d_9:=@Tryz.underlying9
abbrev u_:=@Tryz.underlying93
theorem s_5 (w:World):(zeroValue 140).run Tryz.prog w = .ok (.agg #[]) w:=Tryz.zeroValue140 w
theorem s_6 (w:World):(zeroValue 141).run Tryz.prog w = .ok (.agg #[]) w:=Tryz.zeroValue141 w
theorem s_7 (w:World):(zeroValue 142).run Tryz.prog w = .ok (.agg #[]) w:=Tryz.zeroValue142 w
theorem s_8 (w:World):(zeroValue 145).run Tryz.prog w = .ok (.agg #[(.slice none 0 0)]) w:=Tryz.zeroValue145 w
theorem s_9 (w:World):(zeroValue 146).run Tryz.prog w = .ok (.agg #[]) w:=Tryz.zeroValue146 w
theorem s_a (w:World):(zeroValue 148).run Tryz.prog w = .ok (.agg #[]) w:=Tryz.zeroValue148 w
theorem s_b (w:World):(zeroValue 149).run Tryz.prog w = .ok (.agg #[]) w:=Tryz.zeroValue149 w
theorem b_R (w:World):(zeroValue 198).run Tryz.prog w = .ok (.agg #[(.int .i64 0),(.int .i64 0)]) w:=Tryz.zeroValue198 w
theorem e_j (w:World):(zeroValue 26).run Tryz.prog w = .ok (.agg #[(.slice none 0 0)]) w:=Tryz.zeroValue26 w
theorem j_S (w:World):(zeroValue 29).run Tryz.prog w = .ok (.slice none 0 0) w:=Tryz.zeroValue29 w
theorem i_3 (w:World):(zeroValue 35).run Tryz.prog w = .ok (.agg #[(Str.v ⟨[]⟩),.int .i64 0,.int .i64 0,(.int .i64 0)]) w:=Tryz.zeroValue35 w
theorem n_C (w:World):(zeroValue 4).run Tryz.prog w = .ok (.bool false) w:=Tryz.zeroValue4 w
theorem a_9 (w:World):(zeroValue 45).run Tryz.prog w = .ok (.agg #[(.int .i64 0),.slice none 0 0,(.slice none 0 0)]) w:=Tryz.zeroValue45 w
theorem s_c (w:World):(zeroValue 77).run Tryz.prog w = .ok (.pointer none) w:=Tryz.zeroValue77 w
theorem b_E (w:World):(zeroValue 95).run Tryz.prog w = .ok (.agg #[(Str.v ⟨[]⟩),.int .i64 0,.int .i64 0,.bool false,.slice none 0 0,.slice none 0 0,.slice none 0 0,(.slice none 0 0)]) w:=Tryz.zeroValue95 w
end Go.Vw
