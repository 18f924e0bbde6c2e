
import Derived.Test.YtjdphpimefbinaaGreatDoorV0
import Derived.Test.YtjdphpimefbinaaGreatDoorProg
set_option linter.unusedVariables false
namespace Go.Vw
open Go.RowKit Dat Go.Proofs
theorem mo:Tryz.prog.follows .mixedOrders=true:=by kernel_rfl
def shV (s:Value):Nat->Value
  | 1=>.iface 193<|.agg #[]
  | 2=>.iface 194<|.agg #[]
  | 5=>.iface 195<|.agg #[]
  | 6=>.iface 198<|.agg #[s]
  | 7=>.iface 199<|.agg #[]
  | 8=>.iface 200<|.agg #[]
  | 9=>.iface 201<|.agg #[]
  | 10=>.nilIface
  | _=>.iface 226<|.agg #[]
theorem ta_193 {X:Nat->Prop}{N:Nat}{e:Env}{w:World}{dst:Option Tmp}{ty S:TypeId}{pos:String}{aft:Array Edge}{gd:Option (Nat×Bool)}{x:Operand}{s:Value}{k:Nat}(hx:ev e x=some (shV s k))(h:(k==1)=true):Rd X Tryz.prog N ⟨dst,.typeAssert x S 193 true,ty,pos,aft,gd⟩ e w (.tuple #[.agg #[],.bool true]):=λa ha w' _=>by
  obtain rfl:k=1:=by simpa using h
  simp [execOp,ha.ev hx,shV,Instr.typeAssert,run_underlying Tryz.underlying193]
theorem q_r {X:Nat->Prop}{N:Nat}{e:Env}{w:World}{dst:Option Tmp}{ty S:TypeId}{pos:String}{aft:Array Edge}{gd:Option (Nat×Bool)}{x:Operand}{s:Value}{k:Nat}(hx:ev e x=some (shV s k))(h:(k==1)=false):Rd X Tryz.prog N ⟨dst,.typeAssert x S 193 true,ty,pos,aft,gd⟩ e w (.tuple #[.agg #[],.bool false]):=λa ha w' _=>by
  have hk:k ≠ 1:=by simpa using h
  have hz:=Tryz.zeroValue193 w'
  simp only [execOp,ha.ev hx]
  unfold shV
  split <;> simp_all [Instr.typeAssert,run_underlying Tryz.underlying193]
theorem ta_194 {X:Nat->Prop}{N:Nat}{e:Env}{w:World}{dst:Option Tmp}{ty S:TypeId}{pos:String}{aft:Array Edge}{gd:Option (Nat×Bool)}{x:Operand}{s:Value}{k:Nat}(hx:ev e x=some (shV s k))(h:(k==2)=true):Rd X Tryz.prog N ⟨dst,.typeAssert x S 194 true,ty,pos,aft,gd⟩ e w (.tuple #[.agg #[],.bool true]):=λa ha w' _=>by
  obtain rfl:k=2:=by simpa using h
  simp [execOp,ha.ev hx,shV,Instr.typeAssert,run_underlying Tryz.underlying194]
theorem q_s {X:Nat->Prop}{N:Nat}{e:Env}{w:World}{dst:Option Tmp}{ty S:TypeId}{pos:String}{aft:Array Edge}{gd:Option (Nat×Bool)}{x:Operand}{s:Value}{k:Nat}(hx:ev e x=some (shV s k))(h:(k==2)=false):Rd X Tryz.prog N ⟨dst,.typeAssert x S 194 true,ty,pos,aft,gd⟩ e w (.tuple #[.agg #[],.bool false]):=λa ha w' _=>by
  have hk:k ≠ 2:=by simpa using h
  have hz:=Tryz.zeroValue194 w'
  simp only [execOp,ha.ev hx]
  unfold shV
  split <;> simp_all [Instr.typeAssert,run_underlying Tryz.underlying194]
theorem ta_195 {X:Nat->Prop}{N:Nat}{e:Env}{w:World}{dst:Option Tmp}{ty S:TypeId}{pos:String}{aft:Array Edge}{gd:Option (Nat×Bool)}{x:Operand}{s:Value}{k:Nat}(hx:ev e x=some (shV s k))(h:(k==5)=true):Rd X Tryz.prog N ⟨dst,.typeAssert x S 195 true,ty,pos,aft,gd⟩ e w (.tuple #[.agg #[],.bool true]):=λa ha w' _=>by
  obtain rfl:k=5:=by simpa using h
  simp [execOp,ha.ev hx,shV,Instr.typeAssert,run_underlying Tryz.underlying195]
theorem q_t {X:Nat->Prop}{N:Nat}{e:Env}{w:World}{dst:Option Tmp}{ty S:TypeId}{pos:String}{aft:Array Edge}{gd:Option (Nat×Bool)}{x:Operand}{s:Value}{k:Nat}(hx:ev e x=some (shV s k))(h:(k==5)=false):Rd X Tryz.prog N ⟨dst,.typeAssert x S 195 true,ty,pos,aft,gd⟩ e w (.tuple #[.agg #[],.bool false]):=λa ha w' _=>by
  have hk:k ≠ 5:=by simpa using h
  have hz:=Tryz.zeroValue195 w'
  simp only [execOp,ha.ev hx]
  unfold shV
  split <;> simp_all [Instr.typeAssert,run_underlying Tryz.underlying195]
theorem ta_198 {X:Nat->Prop}{N:Nat}{e:Env}{w:World}{dst:Option Tmp}{ty S:TypeId}{pos:String}{aft:Array Edge}{gd:Option (Nat×Bool)}{x:Operand}{s:Value}{k:Nat}(hx:ev e x=some (shV s k))(h:(k==6)=true):Rd X Tryz.prog N ⟨dst,.typeAssert x S 198 true,ty,pos,aft,gd⟩ e w (.tuple #[.agg #[s],.bool true]):=λa ha w' _=>by
  obtain rfl:k=6:=by simpa using h
  simp [execOp,ha.ev hx,shV,Instr.typeAssert,run_underlying Tryz.underlying198]
theorem q_u {X:Nat->Prop}{N:Nat}{e:Env}{w:World}{dst:Option Tmp}{ty S:TypeId}{pos:String}{aft:Array Edge}{gd:Option (Nat×Bool)}{x:Operand}{s:Value}{k:Nat}(hx:ev e x=some (shV s k))(h:(k==6)=false):Rd X Tryz.prog N ⟨dst,.typeAssert x S 198 true,ty,pos,aft,gd⟩ e w (.tuple #[.agg #[.slice none 0 0],.bool false]):=λa ha w' _=>by
  have hk:k ≠ 6:=by simpa using h
  have hz:=Tryz.zeroValue198 w'
  simp only [execOp,ha.ev hx]
  unfold shV
  split <;> simp_all [Instr.typeAssert,run_underlying Tryz.underlying198]
theorem ta_199 {X:Nat->Prop}{N:Nat}{e:Env}{w:World}{dst:Option Tmp}{ty S:TypeId}{pos:String}{aft:Array Edge}{gd:Option (Nat×Bool)}{x:Operand}{s:Value}{k:Nat}(hx:ev e x=some (shV s k))(h:(k==7)=true):Rd X Tryz.prog N ⟨dst,.typeAssert x S 199 true,ty,pos,aft,gd⟩ e w (.tuple #[.agg #[],.bool true]):=λa ha w' _=>by
  obtain rfl:k=7:=by simpa using h
  simp [execOp,ha.ev hx,shV,Instr.typeAssert,run_underlying Tryz.underlying199]
theorem q_v {X:Nat->Prop}{N:Nat}{e:Env}{w:World}{dst:Option Tmp}{ty S:TypeId}{pos:String}{aft:Array Edge}{gd:Option (Nat×Bool)}{x:Operand}{s:Value}{k:Nat}(hx:ev e x=some (shV s k))(h:(k==7)=false):Rd X Tryz.prog N ⟨dst,.typeAssert x S 199 true,ty,pos,aft,gd⟩ e w (.tuple #[.agg #[],.bool false]):=λa ha w' _=>by
  have hk:k ≠ 7:=by simpa using h
  have hz:=Tryz.zeroValue199 w'
  simp only [execOp,ha.ev hx]
  unfold shV
  split <;> simp_all [Instr.typeAssert,run_underlying Tryz.underlying199]
theorem ta_200 {X:Nat->Prop}{N:Nat}{e:Env}{w:World}{dst:Option Tmp}{ty S:TypeId}{pos:String}{aft:Array Edge}{gd:Option (Nat×Bool)}{x:Operand}{s:Value}{k:Nat}(hx:ev e x=some (shV s k))(h:(k==8)=true):Rd X Tryz.prog N ⟨dst,.typeAssert x S 200 true,ty,pos,aft,gd⟩ e w (.tuple #[.agg #[],.bool true]):=λa ha w' _=>by
  obtain rfl:k=8:=by simpa using h
  simp [execOp,ha.ev hx,shV,Instr.typeAssert,run_underlying Tryz.underlying200]
theorem q_w {X:Nat->Prop}{N:Nat}{e:Env}{w:World}{dst:Option Tmp}{ty S:TypeId}{pos:String}{aft:Array Edge}{gd:Option (Nat×Bool)}{x:Operand}{s:Value}{k:Nat}(hx:ev e x=some (shV s k))(h:(k==8)=false):Rd X Tryz.prog N ⟨dst,.typeAssert x S 200 true,ty,pos,aft,gd⟩ e w (.tuple #[.agg #[],.bool false]):=λa ha w' _=>by
  have hk:k ≠ 8:=by simpa using h
  have hz:=Tryz.zeroValue200 w'
  simp only [execOp,ha.ev hx]
  unfold shV
  split <;> simp_all [Instr.typeAssert,run_underlying Tryz.underlying200]
theorem ta_201 {X:Nat->Prop}{N:Nat}{e:Env}{w:World}{dst:Option Tmp}{ty S:TypeId}{pos:String}{aft:Array Edge}{gd:Option (Nat×Bool)}{x:Operand}{s:Value}{k:Nat}(hx:ev e x=some (shV s k))(h:(k==9)=true):Rd X Tryz.prog N ⟨dst,.typeAssert x S 201 true,ty,pos,aft,gd⟩ e w (.tuple #[.agg #[],.bool true]):=λa ha w' _=>by
  obtain rfl:k=9:=by simpa using h
  simp [execOp,ha.ev hx,shV,Instr.typeAssert,run_underlying Tryz.underlying201]
theorem q_x {X:Nat->Prop}{N:Nat}{e:Env}{w:World}{dst:Option Tmp}{ty S:TypeId}{pos:String}{aft:Array Edge}{gd:Option (Nat×Bool)}{x:Operand}{s:Value}{k:Nat}(hx:ev e x=some (shV s k))(h:(k==9)=false):Rd X Tryz.prog N ⟨dst,.typeAssert x S 201 true,ty,pos,aft,gd⟩ e w (.tuple #[.agg #[],.bool false]):=λa ha w' _=>by
  have hk:k ≠ 9:=by simpa using h
  have hz:=Tryz.zeroValue201 w'
  simp only [execOp,ha.ev hx]
  unfold shV
  split <;> simp_all [Instr.typeAssert,run_underlying Tryz.underlying201]
abbrev a_j:=@Tryz.isAgg119
abbrev g_148:=@Tryz.isAgg148
abbrev g_22:=@Tryz.isAgg22
abbrev g_24:=@Tryz.isAgg24
abbrev T_:=@Tryz.isAgg25
abbrev a_J:=@Tryz.isAgg27
abbrev a_3:=@Tryz.isAgg29
abbrev g_3:=@Tryz.isAgg3
abbrev p_:=@Tryz.isAgg31
abbrev g_4:=@Tryz.isAgg4
abbrev g_42:=@Tryz.isAgg42
abbrev g_47:=@Tryz.isAgg47
abbrev B_:=@Tryz.isAgg49
abbrev g_5:=@Tryz.isAgg5
abbrev F_:=@Tryz.isAgg51
abbrev c_4:=@Tryz.isAgg53
abbrev g_65:=@Tryz.isAgg65
abbrev a_K:=@Tryz.isAgg78
abbrev C_:=@Tryz.isAgg80
abbrev g_9:=@Tryz.isAgg9
abbrev f_0:=@Tryz.isAgg91
abbrev g_97:=@Tryz.isAgg97
theorem c_f:b_v Tryz.prog 119 [(.int .i64 0),(.int .i64 0)] [(0,1),(1,1)]:=⟨λw=>Tryz.zeroValue119 w,_,Tryz.underlying119,λw=>by simp [Tryz.sizeOf3]⟩
theorem q_y:b_v Tryz.prog 143 [(.slice none 0 0),(.slice none 0 0)] [(0,1),(1,1)]:=⟨λw=>Tryz.zeroValue143 w,_,Tryz.underlying143,λw=>by simp [Tryz.sizeOf25,Tryz.sizeOf31]⟩
theorem q_z:b_v Tryz.prog 152 [(.int .i64 0),(.int .i64 0)] [(0,1),(1,1)]:=⟨λw=>Tryz.zeroValue152 w,_,Tryz.underlying152,λw=>by simp [Tryz.sizeOf3]⟩
theorem q_A:b_v Tryz.prog 155 [(.slice none 0 0),.slice none 0 0,(.int .i64 0)] [(0,1),(1,1),(2,1)]:=⟨λw=>Tryz.zeroValue155 w,_,Tryz.underlying155,λw=>by simp [Tryz.sizeOf25,Tryz.sizeOf3,Tryz.sizeOf31]⟩
theorem q_B:b_v Tryz.prog 189 [(.slice none 0 0),.slice none 0 0,.int .i64 0,(.int .i64 0)] [(0,1),(1,1),(2,1),(3,1)]:=⟨λw=>Tryz.zeroValue189 w,_,Tryz.underlying189,λw=>by simp [Tryz.sizeOf25,Tryz.sizeOf3,Tryz.sizeOf31]⟩
theorem q_C:b_v Tryz.prog 193 [] []:=⟨λw=>Tryz.zeroValue193 w,_,Tryz.underlying193,λw=>by simp []⟩
theorem q_D:b_v Tryz.prog 194 [] []:=⟨λw=>Tryz.zeroValue194 w,_,Tryz.underlying194,λw=>by simp []⟩
theorem q_E:b_v Tryz.prog 195 [] []:=⟨λw=>Tryz.zeroValue195 w,_,Tryz.underlying195,λw=>by simp []⟩
theorem q_F:b_v Tryz.prog 198 [(.slice none 0 0)] [(0,1)]:=⟨λw=>Tryz.zeroValue198 w,_,Tryz.underlying198,λw=>by simp [Tryz.sizeOf27]⟩
theorem q_G:b_v Tryz.prog 199 [] []:=⟨λw=>Tryz.zeroValue199 w,_,Tryz.underlying199,λw=>by simp []⟩
theorem q_H:b_v Tryz.prog 200 [] []:=⟨λw=>Tryz.zeroValue200 w,_,Tryz.underlying200,λw=>by simp []⟩
theorem q_I:b_v Tryz.prog 201 [] []:=⟨λw=>Tryz.zeroValue201 w,_,Tryz.underlying201,λw=>by simp []⟩
theorem q_J:b_v Tryz.prog 226 [] []:=⟨λw=>Tryz.zeroValue226 w,_,Tryz.underlying226,λw=>by simp []⟩
theorem m_W:b_v Tryz.prog 47 [(.int .i64 0),.int .i64 0,Str.v ⟨[]⟩,(.int .i64 0)] [(0,1),(1,1),(2,1),(3,1)]:=⟨λw=>Tryz.zeroValue47 w,_,Tryz.underlying47,λw=>by simp [Tryz.sizeOf3,Tryz.sizeOf9]⟩
theorem d_n:b_v Tryz.prog 53 [(Str.v ⟨[]⟩),.int .i64 0,.int .i64 0,(.int .i64 0)] [(0,1),(1,1),(2,1),(3,1)]:=⟨λw=>Tryz.zeroValue53 w,_,Tryz.underlying53,λw=>by simp [Tryz.sizeOf3,Tryz.sizeOf9]⟩
theorem a_7:b_v Tryz.prog 80 [(.int .i64 0),.slice none 0 0,(.slice none 0 0)] [(0,1),(1,1),(2,1)]:=⟨λw=>Tryz.zeroValue80 w,_,Tryz.underlying80,λw=>by simp [Tryz.sizeOf25,Tryz.sizeOf3,Tryz.sizeOf78]⟩
theorem q_K:b_v Tryz.prog 89 [(.slice none 0 0),.slice none 0 0,(.slice none 0 0)] [(0,1),(1,1),(2,1)]:=⟨λw=>Tryz.zeroValue89 w,_,Tryz.underlying89,λw=>by simp [Tryz.sizeOf25,Tryz.sizeOf31,Tryz.sizeOf42]⟩
theorem q_L:b_v Tryz.prog 95 [(.slice none 0 0),.slice none 0 0,Str.v ⟨[]⟩,(.int .i64 0)] [(0,1),(1,1),(2,1),(3,1)]:=⟨λw=>Tryz.zeroValue95 w,_,Tryz.underlying95,λw=>by simp [Tryz.sizeOf25,Tryz.sizeOf3,Tryz.sizeOf31,Tryz.sizeOf9]⟩
theorem b_F:El Tryz.prog 25 5 1 1 (.int .u8 0):=⟨Tryz.underlying25,by kernel_rfl,rfl,by decide,by decide⟩
theorem a_A:El Tryz.prog 27 9 1 16 (Str.v ⟨[]⟩):=⟨Tryz.underlying27,by kernel_rfl,rfl,by decide,by decide⟩
theorem el_29:El Tryz.prog 29 51 8 136 (.agg #[(Str.v ⟨[]⟩),.int .i64 0,.int .i64 0,.bool false,.slice none 0 0,.slice none 0 0,.slice none 0 0,(.slice none 0 0)]):=⟨Tryz.underlying29,by kernel_rfl,rfl,by decide,by decide⟩
theorem d_o:El Tryz.prog 42 53 4 40 (.agg #[(Str.v ⟨[]⟩),.int .i64 0,.int .i64 0,(.int .i64 0)]):=⟨Tryz.underlying42,by kernel_rfl,rfl,by decide,by decide⟩
theorem j_2:El Tryz.prog 49 3 1 8 (.int .i64 0):=⟨Tryz.underlying49,by kernel_rfl,rfl,by decide,by decide⟩
theorem j_3:El Tryz.prog 78 80 3 56 (.agg #[(.int .i64 0),.slice none 0 0,(.slice none 0 0)]):=⟨Tryz.underlying78,by kernel_rfl,rfl,by decide,by decide⟩
theorem q_M:EqA Tryz.prog 119 (λx:K_=>Value.agg #[vI x.at_,vI x.code]):=⟨λx y=>⟨_,_,_,rfl,rfl,Tryz.underlying119,(show decide (x=y)=((x.at_==y.at_) && ((x.code==y.code) && true)) from Bool.eq_iff_iff.2 (by cases x;cases y;simp [Str.beq_dec])) ▸ (.cons rfl Tryz.isAgg3 rfl rfl (.int Tryz.underlying3)<|.cons rfl Tryz.isAgg3 rfl rfl (.int Tryz.underlying3) .nil)⟩,by kernel_rfl,by kernel_rfl⟩
theorem c_U:Fld Tryz.prog 119 0 0:=⟨_,_,Tryz.underlying119,rfl,rfl,1,λw=>Tryz.sizeOf3 w,by decide⟩
theorem d_p:Fld Tryz.prog 119 1 1:=⟨_,_,Tryz.underlying119,rfl,rfl,1,λw=>Tryz.sizeOf3 w,by decide⟩
theorem m_X:Fld Tryz.prog 143 0 0:=⟨_,_,Tryz.underlying143,rfl,rfl,1,λw=>Tryz.sizeOf31 w,by decide⟩
theorem f_F:Fld Tryz.prog 143 1 1:=⟨_,_,Tryz.underlying143,rfl,rfl,1,λw=>Tryz.sizeOf25 w,by decide⟩
theorem q_N:Fld Tryz.prog 152 0 0:=⟨_,_,Tryz.underlying152,rfl,rfl,1,λw=>Tryz.sizeOf3 w,by decide⟩
theorem q_O:Fld Tryz.prog 152 1 1:=⟨_,_,Tryz.underlying152,rfl,rfl,1,λw=>Tryz.sizeOf3 w,by decide⟩
theorem m_Y:Fld Tryz.prog 155 0 0:=⟨_,_,Tryz.underlying155,rfl,rfl,1,λw=>Tryz.sizeOf31 w,by decide⟩
theorem d_O:Fld Tryz.prog 155 1 1:=⟨_,_,Tryz.underlying155,rfl,rfl,1,λw=>Tryz.sizeOf25 w,by decide⟩
theorem j_4:Fld Tryz.prog 155 2 2:=⟨_,_,Tryz.underlying155,rfl,rfl,1,λw=>Tryz.sizeOf3 w,by decide⟩
theorem k_V:Fld Tryz.prog 189 0 0:=⟨_,_,Tryz.underlying189,rfl,rfl,1,λw=>Tryz.sizeOf31 w,by decide⟩
theorem j_5:Fld Tryz.prog 189 1 1:=⟨_,_,Tryz.underlying189,rfl,rfl,1,λw=>Tryz.sizeOf25 w,by decide⟩
theorem f_1:Fld Tryz.prog 189 2 2:=⟨_,_,Tryz.underlying189,rfl,rfl,1,λw=>Tryz.sizeOf3 w,by decide⟩
theorem d_q:Fld Tryz.prog 189 3 3:=⟨_,_,Tryz.underlying189,rfl,rfl,1,λw=>Tryz.sizeOf3 w,by decide⟩
theorem q_P:Fld Tryz.prog 198 0 0:=⟨_,_,Tryz.underlying198,rfl,rfl,1,λw=>Tryz.sizeOf27 w,by decide⟩
theorem m_Z:Fld Tryz.prog 24 0 0:=⟨_,_,Tryz.underlying24,rfl,rfl,1,λw=>Tryz.sizeOf22 w,by decide⟩
theorem a_2:Fld Tryz.prog 31 0 0:=⟨_,_,Tryz.underlying31,rfl,rfl,1,λw=>Tryz.sizeOf29 w,by decide⟩
theorem j_6:Fld Tryz.prog 47 0 0:=⟨_,_,Tryz.underlying47,rfl,rfl,1,λw=>Tryz.sizeOf3 w,by decide⟩
theorem n_0:Fld Tryz.prog 47 1 1:=⟨_,_,Tryz.underlying47,rfl,rfl,1,λw=>Tryz.sizeOf3 w,by decide⟩
theorem f_G:Fld Tryz.prog 47 2 2:=⟨_,_,Tryz.underlying47,rfl,rfl,1,λw=>Tryz.sizeOf9 w,by decide⟩
theorem e_o:Fld Tryz.prog 47 3 3:=⟨_,_,Tryz.underlying47,rfl,rfl,1,λw=>Tryz.sizeOf3 w,by decide⟩
theorem c_g:Fld Tryz.prog 51 0 0:=⟨_,_,Tryz.underlying51,rfl,rfl,1,λw=>Tryz.sizeOf9 w,by decide⟩
theorem a_8:Fld Tryz.prog 51 1 1:=⟨_,_,Tryz.underlying51,rfl,rfl,1,λw=>Tryz.sizeOf3 w,by decide⟩
theorem a_M:Fld Tryz.prog 51 2 2:=⟨_,_,Tryz.underlying51,rfl,rfl,1,λw=>Tryz.sizeOf3 w,by decide⟩
theorem c_t:Fld Tryz.prog 51 3 3:=⟨_,_,Tryz.underlying51,rfl,rfl,1,λw=>Tryz.sizeOf4 w,by decide⟩
theorem b_c:Fld Tryz.prog 51 4 4:=⟨_,_,Tryz.underlying51,rfl,rfl,1,λw=>Tryz.sizeOf25 w,by decide⟩
theorem b_B:Fld Tryz.prog 51 5 5:=⟨_,_,Tryz.underlying51,rfl,rfl,1,λw=>Tryz.sizeOf27 w,by decide⟩
theorem b_1:Fld Tryz.prog 51 6 6:=⟨_,_,Tryz.underlying51,rfl,rfl,1,λw=>Tryz.sizeOf49 w,by decide⟩
theorem J_:Fld Tryz.prog 51 7 7:=⟨_,_,Tryz.underlying51,rfl,rfl,1,λw=>Tryz.sizeOf49 w,by decide⟩
theorem j_7:Fld Tryz.prog 53 0 0:=⟨_,_,Tryz.underlying53,rfl,rfl,1,λw=>Tryz.sizeOf9 w,by decide⟩
theorem e_p:Fld Tryz.prog 53 1 1:=⟨_,_,Tryz.underlying53,rfl,rfl,1,λw=>Tryz.sizeOf3 w,by decide⟩
theorem j_8:Fld Tryz.prog 53 2 2:=⟨_,_,Tryz.underlying53,rfl,rfl,1,λw=>Tryz.sizeOf3 w,by decide⟩
theorem k_W:Fld Tryz.prog 53 3 3:=⟨_,_,Tryz.underlying53,rfl,rfl,1,λw=>Tryz.sizeOf3 w,by decide⟩
theorem n_1:Fld Tryz.prog 65 0 0:=⟨_,_,Tryz.underlying65,rfl,rfl,1,λw=>Tryz.sizeOf9 w,by decide⟩
theorem f_65_1:Fld Tryz.prog 65 1 1:=⟨_,_,Tryz.underlying65,rfl,rfl,1,λw=>Tryz.sizeOf3 w,by decide⟩
theorem f_65_2:Fld Tryz.prog 65 2 2:=⟨_,_,Tryz.underlying65,rfl,rfl,1,λw=>Tryz.sizeOf3 w,by decide⟩
theorem f_65_3:Fld Tryz.prog 65 3 3:=⟨_,_,Tryz.underlying65,rfl,rfl,1,λw=>Tryz.sizeOf4 w,by decide⟩
theorem n_2:Fld Tryz.prog 65 4 4:=⟨_,_,Tryz.underlying65,rfl,rfl,1,λw=>Tryz.sizeOf25 w,by decide⟩
theorem n_3:Fld Tryz.prog 65 5 5:=⟨_,_,Tryz.underlying65,rfl,rfl,1,λw=>Tryz.sizeOf27 w,by decide⟩
theorem n_4:Fld Tryz.prog 65 6 6:=⟨_,_,Tryz.underlying65,rfl,rfl,1,λw=>Tryz.sizeOf49 w,by decide⟩
theorem n_5:Fld Tryz.prog 65 7 7:=⟨_,_,Tryz.underlying65,rfl,rfl,1,λw=>Tryz.sizeOf49 w,by decide⟩
theorem b_s:Fld Tryz.prog 80 0 0:=⟨_,_,Tryz.underlying80,rfl,rfl,1,λw=>Tryz.sizeOf3 w,by decide⟩
theorem c_h:Fld Tryz.prog 80 1 1:=⟨_,_,Tryz.underlying80,rfl,rfl,1,λw=>Tryz.sizeOf25 w,by decide⟩
theorem a_B:Fld Tryz.prog 80 2 2:=⟨_,_,Tryz.underlying80,rfl,rfl,1,λw=>Tryz.sizeOf78 w,by decide⟩
theorem g_X:Fld Tryz.prog 89 0 0:=⟨_,_,Tryz.underlying89,rfl,rfl,1,λw=>Tryz.sizeOf31 w,by decide⟩
theorem f_89_1:Fld Tryz.prog 89 1 1:=⟨_,_,Tryz.underlying89,rfl,rfl,1,λw=>Tryz.sizeOf25 w,by decide⟩
theorem g_Y:Fld Tryz.prog 89 2 2:=⟨_,_,Tryz.underlying89,rfl,rfl,1,λw=>Tryz.sizeOf42 w,by decide⟩
theorem g_Z:Fld Tryz.prog 95 0 0:=⟨_,_,Tryz.underlying95,rfl,rfl,1,λw=>Tryz.sizeOf31 w,by decide⟩
theorem h_0:Fld Tryz.prog 95 1 1:=⟨_,_,Tryz.underlying95,rfl,rfl,1,λw=>Tryz.sizeOf25 w,by decide⟩
theorem n_6:Fld Tryz.prog 95 2 2:=⟨_,_,Tryz.underlying95,rfl,rfl,1,λw=>Tryz.sizeOf9 w,by decide⟩
theorem n_7:Fld Tryz.prog 95 3 3:=⟨_,_,Tryz.underlying95,rfl,rfl,1,λw=>Tryz.sizeOf3 w,by decide⟩
abbrev I_:=@Tryz.sizeOf119
abbrev z_193:=@Tryz.sizeOf193
abbrev z_194:=@Tryz.sizeOf194
abbrev z_195:=@Tryz.sizeOf195
abbrev z_198:=@Tryz.sizeOf198
abbrev z_199:=@Tryz.sizeOf199
abbrev z_200:=@Tryz.sizeOf200
abbrev z_201:=@Tryz.sizeOf201
abbrev z_24:=@Tryz.sizeOf24
abbrev z_25:=@Tryz.sizeOf25
abbrev d_P:=@Tryz.sizeOf27
abbrev z_29:=@Tryz.sizeOf29
abbrev z_3:=@Tryz.sizeOf3
abbrev n_:=@Tryz.sizeOf31
abbrev z_4:=@Tryz.sizeOf4
abbrev z_42:=@Tryz.sizeOf42
abbrev e_q:=@Tryz.sizeOf47
abbrev z_49:=@Tryz.sizeOf49
abbrev z_5:=@Tryz.sizeOf5
abbrev l_:=@Tryz.sizeOf51
abbrev a_w:=@Tryz.sizeOf53
abbrev z_65:=@Tryz.sizeOf65
abbrev z_78:=@Tryz.sizeOf78
abbrev i_:=@Tryz.sizeOf80
abbrev z_9:=@Tryz.sizeOf9
abbrev d_Q:=@Tryz.underlying145
abbrev d_148:=@Tryz.underlying148
abbrev d_150:=@Tryz.underlying150
abbrev d_193:=@Tryz.underlying193
abbrev d_194:=@Tryz.underlying194
abbrev d_195:=@Tryz.underlying195
abbrev d_198:=@Tryz.underlying198
abbrev d_199:=@Tryz.underlying199
abbrev d_200:=@Tryz.underlying200
abbrev d_201:=@Tryz.underlying201
abbrev e_r:=@Tryz.underlying22
abbrev d_226:=@Tryz.underlying226
abbrev o_:=@Tryz.underlying25
abbrev V_:=@Tryz.underlying27
abbrev R_:=@Tryz.underlying29
abbrev d_3:=@Tryz.underlying3
abbrev d_4:=@Tryz.underlying4
abbrev c_I:=@Tryz.underlying42
abbrev s_:=@Tryz.underlying49
abbrev d_5:=@Tryz.underlying5
abbrev a_Q:=@Tryz.underlying78
abbrev d_9:=@Tryz.underlying9
theorem b_G (w:World):(zeroValue 119).run Tryz.prog w = .ok (.agg #[(.int .i64 0),(.int .i64 0)]) w:=Tryz.zeroValue119 w
theorem q_Q (w:World):(zeroValue 148).run Tryz.prog w = .ok (.pointer none) w:=Tryz.zeroValue148 w
theorem q_R (w:World):(zeroValue 193).run Tryz.prog w = .ok (.agg #[]) w:=Tryz.zeroValue193 w
theorem q_S (w:World):(zeroValue 194).run Tryz.prog w = .ok (.agg #[]) w:=Tryz.zeroValue194 w
theorem q_T (w:World):(zeroValue 195).run Tryz.prog w = .ok (.agg #[]) w:=Tryz.zeroValue195 w
theorem q_U (w:World):(zeroValue 198).run Tryz.prog w = .ok (.agg #[(.slice none 0 0)]) w:=Tryz.zeroValue198 w
theorem q_V (w:World):(zeroValue 199).run Tryz.prog w = .ok (.agg #[]) w:=Tryz.zeroValue199 w
theorem q_W (w:World):(zeroValue 200).run Tryz.prog w = .ok (.agg #[]) w:=Tryz.zeroValue200 w
theorem q_X (w:World):(zeroValue 201).run Tryz.prog w = .ok (.agg #[]) w:=Tryz.zeroValue201 w
theorem k_X (w:World):(zeroValue 27).run Tryz.prog w = .ok (.slice none 0 0) w:=Tryz.zeroValue27 w
theorem k_Y (w:World):(zeroValue 3).run Tryz.prog w = .ok (.int .i64 0) w:=Tryz.zeroValue3 w
theorem k_Z (w:World):(zeroValue 31).run Tryz.prog w = .ok (.agg #[(.slice none 0 0)]) w:=Tryz.zeroValue31 w
theorem zero_4 (w:World):(zeroValue 4).run Tryz.prog w = .ok (.bool false) w:=Tryz.zeroValue4 w
theorem j_9 (w:World):(zeroValue 47).run Tryz.prog w = .ok (.agg #[(.int .i64 0),.int .i64 0,Str.v ⟨[]⟩,(.int .i64 0)]) w:=Tryz.zeroValue47 w
theorem b_n (w:World):(zeroValue 51).run Tryz.prog w = .ok (.agg #[(Str.v ⟨[]⟩),.int .i64 0,.int .i64 0,.bool false,.slice none 0 0,.slice none 0 0,.slice none 0 0,(.slice none 0 0)]) w:=Tryz.zeroValue51 w
theorem f_2 (w:World):(zeroValue 53).run Tryz.prog w = .ok (.agg #[(Str.v ⟨[]⟩),.int .i64 0,.int .i64 0,(.int .i64 0)]) w:=Tryz.zeroValue53 w
theorem a_e (w:World):(zeroValue 80).run Tryz.prog w = .ok (.agg #[(.int .i64 0),.slice none 0 0,(.slice none 0 0)]) w:=Tryz.zeroValue80 w
end Go.Vw
