
import Derived.Test.YtelphaiofendpaaGreatDoorVmA
import Derived.Test.YtelphaiofendpaaGreatDoorProg
set_option linter.unusedVariables false
namespace Go.Vw
open Go.RowKit Dat Go.Proofs
theorem mo:Tryz.prog.follows .mixedOrders=true:=by kernel_rfl
def shV (s:Value):Nat->Value
  | 1=>.iface 152<|.agg #[]
  | 2=>.iface 153<|.agg #[]
  | 5=>.iface 154<|.agg #[]
  | 6=>.iface 157<|.agg #[s]
  | 7=>.iface 158<|.agg #[]
  | 8=>.iface 159<|.agg #[]
  | 9=>.iface 160<|.agg #[]
  | 10=>.nilIface
  | _=>.iface 189<|.agg #[]
theorem ta_152 {X:Nat->Prop}{N:Nat}{e:Env}{w:World}{dst:Option Tmp}{ty S:TypeId}{pos:String}{aft:Array Edge}{gd:Option (Nat×Bool)}{x:Operand}{s:Value}{k:Nat}(hx:ev e x=some (shV s k))(h:(k==1)=true):Rd X Tryz.prog N ⟨dst,.typeAssert x S 152 true,ty,pos,aft,gd⟩ e w (.tuple #[.agg #[],.bool true]):=λa ha w' _=>by
  obtain rfl:k=1:=by simpa using h
  simp [execOp,ha.ev hx,shV,Instr.typeAssert,run_underlying Tryz.underlying152]
theorem q_6 {X:Nat->Prop}{N:Nat}{e:Env}{w:World}{dst:Option Tmp}{ty S:TypeId}{pos:String}{aft:Array Edge}{gd:Option (Nat×Bool)}{x:Operand}{s:Value}{k:Nat}(hx:ev e x=some (shV s k))(h:(k==1)=false):Rd X Tryz.prog N ⟨dst,.typeAssert x S 152 true,ty,pos,aft,gd⟩ e w (.tuple #[.agg #[],.bool false]):=λa ha w' _=>by
  have hk:k ≠ 1:=by simpa using h
  have hz:=Tryz.zeroValue152 w'
  simp only [execOp,ha.ev hx]
  unfold shV
  split <;> simp_all [Instr.typeAssert,run_underlying Tryz.underlying152]
theorem ta_153 {X:Nat->Prop}{N:Nat}{e:Env}{w:World}{dst:Option Tmp}{ty S:TypeId}{pos:String}{aft:Array Edge}{gd:Option (Nat×Bool)}{x:Operand}{s:Value}{k:Nat}(hx:ev e x=some (shV s k))(h:(k==2)=true):Rd X Tryz.prog N ⟨dst,.typeAssert x S 153 true,ty,pos,aft,gd⟩ e w (.tuple #[.agg #[],.bool true]):=λa ha w' _=>by
  obtain rfl:k=2:=by simpa using h
  simp [execOp,ha.ev hx,shV,Instr.typeAssert,run_underlying Tryz.underlying153]
theorem q_7 {X:Nat->Prop}{N:Nat}{e:Env}{w:World}{dst:Option Tmp}{ty S:TypeId}{pos:String}{aft:Array Edge}{gd:Option (Nat×Bool)}{x:Operand}{s:Value}{k:Nat}(hx:ev e x=some (shV s k))(h:(k==2)=false):Rd X Tryz.prog N ⟨dst,.typeAssert x S 153 true,ty,pos,aft,gd⟩ e w (.tuple #[.agg #[],.bool false]):=λa ha w' _=>by
  have hk:k ≠ 2:=by simpa using h
  have hz:=Tryz.zeroValue153 w'
  simp only [execOp,ha.ev hx]
  unfold shV
  split <;> simp_all [Instr.typeAssert,run_underlying Tryz.underlying153]
theorem ta_154 {X:Nat->Prop}{N:Nat}{e:Env}{w:World}{dst:Option Tmp}{ty S:TypeId}{pos:String}{aft:Array Edge}{gd:Option (Nat×Bool)}{x:Operand}{s:Value}{k:Nat}(hx:ev e x=some (shV s k))(h:(k==5)=true):Rd X Tryz.prog N ⟨dst,.typeAssert x S 154 true,ty,pos,aft,gd⟩ e w (.tuple #[.agg #[],.bool true]):=λa ha w' _=>by
  obtain rfl:k=5:=by simpa using h
  simp [execOp,ha.ev hx,shV,Instr.typeAssert,run_underlying Tryz.underlying154]
theorem q_8 {X:Nat->Prop}{N:Nat}{e:Env}{w:World}{dst:Option Tmp}{ty S:TypeId}{pos:String}{aft:Array Edge}{gd:Option (Nat×Bool)}{x:Operand}{s:Value}{k:Nat}(hx:ev e x=some (shV s k))(h:(k==5)=false):Rd X Tryz.prog N ⟨dst,.typeAssert x S 154 true,ty,pos,aft,gd⟩ e w (.tuple #[.agg #[],.bool false]):=λa ha w' _=>by
  have hk:k ≠ 5:=by simpa using h
  have hz:=Tryz.zeroValue154 w'
  simp only [execOp,ha.ev hx]
  unfold shV
  split <;> simp_all [Instr.typeAssert,run_underlying Tryz.underlying154]
theorem ta_157 {X:Nat->Prop}{N:Nat}{e:Env}{w:World}{dst:Option Tmp}{ty S:TypeId}{pos:String}{aft:Array Edge}{gd:Option (Nat×Bool)}{x:Operand}{s:Value}{k:Nat}(hx:ev e x=some (shV s k))(h:(k==6)=true):Rd X Tryz.prog N ⟨dst,.typeAssert x S 157 true,ty,pos,aft,gd⟩ e w (.tuple #[.agg #[s],.bool true]):=λa ha w' _=>by
  obtain rfl:k=6:=by simpa using h
  simp [execOp,ha.ev hx,shV,Instr.typeAssert,run_underlying Tryz.underlying157]
theorem q_9 {X:Nat->Prop}{N:Nat}{e:Env}{w:World}{dst:Option Tmp}{ty S:TypeId}{pos:String}{aft:Array Edge}{gd:Option (Nat×Bool)}{x:Operand}{s:Value}{k:Nat}(hx:ev e x=some (shV s k))(h:(k==6)=false):Rd X Tryz.prog N ⟨dst,.typeAssert x S 157 true,ty,pos,aft,gd⟩ e w (.tuple #[.agg #[.slice none 0 0],.bool false]):=λa ha w' _=>by
  have hk:k ≠ 6:=by simpa using h
  have hz:=Tryz.zeroValue157 w'
  simp only [execOp,ha.ev hx]
  unfold shV
  split <;> simp_all [Instr.typeAssert,run_underlying Tryz.underlying157]
theorem ta_158 {X:Nat->Prop}{N:Nat}{e:Env}{w:World}{dst:Option Tmp}{ty S:TypeId}{pos:String}{aft:Array Edge}{gd:Option (Nat×Bool)}{x:Operand}{s:Value}{k:Nat}(hx:ev e x=some (shV s k))(h:(k==7)=true):Rd X Tryz.prog N ⟨dst,.typeAssert x S 158 true,ty,pos,aft,gd⟩ e w (.tuple #[.agg #[],.bool true]):=λa ha w' _=>by
  obtain rfl:k=7:=by simpa using h
  simp [execOp,ha.ev hx,shV,Instr.typeAssert,run_underlying Tryz.underlying158]
theorem q_a {X:Nat->Prop}{N:Nat}{e:Env}{w:World}{dst:Option Tmp}{ty S:TypeId}{pos:String}{aft:Array Edge}{gd:Option (Nat×Bool)}{x:Operand}{s:Value}{k:Nat}(hx:ev e x=some (shV s k))(h:(k==7)=false):Rd X Tryz.prog N ⟨dst,.typeAssert x S 158 true,ty,pos,aft,gd⟩ e w (.tuple #[.agg #[],.bool false]):=λa ha w' _=>by
  have hk:k ≠ 7:=by simpa using h
  have hz:=Tryz.zeroValue158 w'
  simp only [execOp,ha.ev hx]
  unfold shV
  split <;> simp_all [Instr.typeAssert,run_underlying Tryz.underlying158]
theorem ta_159 {X:Nat->Prop}{N:Nat}{e:Env}{w:World}{dst:Option Tmp}{ty S:TypeId}{pos:String}{aft:Array Edge}{gd:Option (Nat×Bool)}{x:Operand}{s:Value}{k:Nat}(hx:ev e x=some (shV s k))(h:(k==8)=true):Rd X Tryz.prog N ⟨dst,.typeAssert x S 159 true,ty,pos,aft,gd⟩ e w (.tuple #[.agg #[],.bool true]):=λa ha w' _=>by
  obtain rfl:k=8:=by simpa using h
  simp [execOp,ha.ev hx,shV,Instr.typeAssert,run_underlying Tryz.underlying159]
theorem q_b {X:Nat->Prop}{N:Nat}{e:Env}{w:World}{dst:Option Tmp}{ty S:TypeId}{pos:String}{aft:Array Edge}{gd:Option (Nat×Bool)}{x:Operand}{s:Value}{k:Nat}(hx:ev e x=some (shV s k))(h:(k==8)=false):Rd X Tryz.prog N ⟨dst,.typeAssert x S 159 true,ty,pos,aft,gd⟩ e w (.tuple #[.agg #[],.bool false]):=λa ha w' _=>by
  have hk:k ≠ 8:=by simpa using h
  have hz:=Tryz.zeroValue159 w'
  simp only [execOp,ha.ev hx]
  unfold shV
  split <;> simp_all [Instr.typeAssert,run_underlying Tryz.underlying159]
theorem ta_160 {X:Nat->Prop}{N:Nat}{e:Env}{w:World}{dst:Option Tmp}{ty S:TypeId}{pos:String}{aft:Array Edge}{gd:Option (Nat×Bool)}{x:Operand}{s:Value}{k:Nat}(hx:ev e x=some (shV s k))(h:(k==9)=true):Rd X Tryz.prog N ⟨dst,.typeAssert x S 160 true,ty,pos,aft,gd⟩ e w (.tuple #[.agg #[],.bool true]):=λa ha w' _=>by
  obtain rfl:k=9:=by simpa using h
  simp [execOp,ha.ev hx,shV,Instr.typeAssert,run_underlying Tryz.underlying160]
theorem q_c {X:Nat->Prop}{N:Nat}{e:Env}{w:World}{dst:Option Tmp}{ty S:TypeId}{pos:String}{aft:Array Edge}{gd:Option (Nat×Bool)}{x:Operand}{s:Value}{k:Nat}(hx:ev e x=some (shV s k))(h:(k==9)=false):Rd X Tryz.prog N ⟨dst,.typeAssert x S 160 true,ty,pos,aft,gd⟩ e w (.tuple #[.agg #[],.bool false]):=λa ha w' _=>by
  have hk:k ≠ 9:=by simpa using h
  have hz:=Tryz.zeroValue160 w'
  simp only [execOp,ha.ev hx]
  unfold shV
  split <;> simp_all [Instr.typeAssert,run_underlying Tryz.underlying160]
abbrev e_P:=@Tryz.isAgg102
abbrev a_m:=@Tryz.isAgg133
abbrev g_142:=@Tryz.isAgg142
abbrev R_:=@Tryz.isAgg22
abbrev a_8:=@Tryz.isAgg24
abbrev t_:=@Tryz.isAgg26
abbrev g_3:=@Tryz.isAgg3
abbrev a_9:=@Tryz.isAgg30
abbrev q_:=@Tryz.isAgg32
abbrev f_x:=@Tryz.isAgg36
abbrev g_4:=@Tryz.isAgg4
abbrev g_5:=@Tryz.isAgg5
abbrev b_i:=@Tryz.isAgg58
abbrev g_65:=@Tryz.isAgg65
abbrev A_:=@Tryz.isAgg71
abbrev L_:=@Tryz.isAgg73
abbrev g_9:=@Tryz.isAgg9
theorem q_d:b_r Tryz.prog 131 [(.slice none 0 0),.slice none 0 0,(.int .i64 0)] [(0,1),(1,1),(2,1)]:=⟨λw=>Tryz.zeroValue131 w,_,Tryz.underlying131,λw=>by simp [Tryz.sizeOf22,Tryz.sizeOf26,Tryz.sizeOf3]⟩
theorem c_F:b_r Tryz.prog 133 [(.int .i64 0),(.int .i64 0)] [(0,1),(1,1)]:=⟨λw=>Tryz.zeroValue133 w,_,Tryz.underlying133,λw=>by simp [Tryz.sizeOf3]⟩
theorem q_e:b_r Tryz.prog 137 [(.slice none 0 0),(.slice none 0 0)] [(0,1),(1,1)]:=⟨λw=>Tryz.zeroValue137 w,_,Tryz.underlying137,λw=>by simp [Tryz.sizeOf22,Tryz.sizeOf26]⟩
theorem q_f:b_r Tryz.prog 146 [(.int .i64 0),(.int .i64 0)] [(0,1),(1,1)]:=⟨λw=>Tryz.zeroValue146 w,_,Tryz.underlying146,λw=>by simp [Tryz.sizeOf3]⟩
theorem q_g:b_r Tryz.prog 152 [] []:=⟨λw=>Tryz.zeroValue152 w,_,Tryz.underlying152,λw=>by simp []⟩
theorem q_h:b_r Tryz.prog 153 [] []:=⟨λw=>Tryz.zeroValue153 w,_,Tryz.underlying153,λw=>by simp []⟩
theorem q_i:b_r Tryz.prog 154 [] []:=⟨λw=>Tryz.zeroValue154 w,_,Tryz.underlying154,λw=>by simp []⟩
theorem q_j:b_r Tryz.prog 157 [(.slice none 0 0)] [(0,1)]:=⟨λw=>Tryz.zeroValue157 w,_,Tryz.underlying157,λw=>by simp [Tryz.sizeOf58]⟩
theorem q_k:b_r Tryz.prog 158 [] []:=⟨λw=>Tryz.zeroValue158 w,_,Tryz.underlying158,λw=>by simp []⟩
theorem q_l:b_r Tryz.prog 159 [] []:=⟨λw=>Tryz.zeroValue159 w,_,Tryz.underlying159,λw=>by simp []⟩
theorem q_m:b_r Tryz.prog 160 [] []:=⟨λw=>Tryz.zeroValue160 w,_,Tryz.underlying160,λw=>by simp []⟩
theorem q_n:b_r Tryz.prog 189 [] []:=⟨λw=>Tryz.zeroValue189 w,_,Tryz.underlying189,λw=>by simp []⟩
theorem q_o:b_r Tryz.prog 26 [(.slice none 0 0)] [(0,1)]:=⟨λw=>Tryz.zeroValue26 w,_,Tryz.underlying26,λw=>by simp [Tryz.sizeOf24]⟩
theorem Y_:b_r Tryz.prog 32 [(.int .i64 0),.slice none 0 0,(.slice none 0 0)] [(0,1),(1,1),(2,1)]:=⟨λw=>Tryz.zeroValue32 w,_,Tryz.underlying32,λw=>by simp [Tryz.sizeOf22,Tryz.sizeOf3,Tryz.sizeOf30]⟩
theorem g_R:b_r Tryz.prog 36 [(Str.v ⟨[]⟩),.int .i64 0,.int .i64 0,(.int .i64 0)] [(0,1),(1,1),(2,1),(3,1)]:=⟨λw=>Tryz.zeroValue36 w,_,Tryz.underlying36,λw=>by simp [Tryz.sizeOf3,Tryz.sizeOf9]⟩
theorem q_p:b_r Tryz.prog 64 [(.slice none 0 0),.slice none 0 0,.int .i64 0,(.int .i64 0)] [(0,1),(1,1),(2,1),(3,1)]:=⟨λw=>Tryz.zeroValue64 w,_,Tryz.underlying64,λw=>by simp [Tryz.sizeOf22,Tryz.sizeOf26,Tryz.sizeOf3]⟩
theorem q_q:b_r Tryz.prog 73 [(Str.v ⟨[]⟩),.int .i64 0,.int .i64 0,.bool false,.slice none 0 0,.slice none 0 0,.slice none 0 0,(.slice none 0 0)] [(0,1),(1,1),(2,1),(3,1),(4,1),(5,1),(6,1),(7,1)]:=⟨λw=>Tryz.zeroValue73 w,_,Tryz.underlying73,λw=>by simp [Tryz.sizeOf22,Tryz.sizeOf3,Tryz.sizeOf4,Tryz.sizeOf58,Tryz.sizeOf71,Tryz.sizeOf9]⟩
theorem q_r:b_r Tryz.prog 77 [(.slice none 0 0),.int .i64 0,(.int .i64 0)] [(0,1),(1,1),(2,1)]:=⟨λw=>Tryz.zeroValue77 w,_,Tryz.underlying77,λw=>by simp [Tryz.sizeOf22,Tryz.sizeOf3]⟩
theorem a_2:El Tryz.prog 22 5 1 1 (.int .u8 0):=⟨Tryz.underlying22,by kernel_rfl,rfl,by decide,by decide⟩
theorem i_N:El Tryz.prog 24 73 8 136 (.agg #[(Str.v ⟨[]⟩),.int .i64 0,.int .i64 0,.bool false,.slice none 0 0,.slice none 0 0,.slice none 0 0,(.slice none 0 0)]):=⟨Tryz.underlying24,by kernel_rfl,rfl,by decide,by decide⟩
theorem k_c:El Tryz.prog 27 36 4 40 (.agg #[(Str.v ⟨[]⟩),.int .i64 0,.int .i64 0,(.int .i64 0)]):=⟨Tryz.underlying27,by kernel_rfl,rfl,by decide,by decide⟩
theorem c_4:El Tryz.prog 30 32 3 56 (.agg #[(.int .i64 0),.slice none 0 0,(.slice none 0 0)]):=⟨Tryz.underlying30,by kernel_rfl,rfl,by decide,by decide⟩
theorem b_5:El Tryz.prog 58 9 1 16 (Str.v ⟨[]⟩):=⟨Tryz.underlying58,by kernel_rfl,rfl,by decide,by decide⟩
theorem b_X:El Tryz.prog 71 3 1 8 (.int .i64 0):=⟨Tryz.underlying71,by kernel_rfl,rfl,by decide,by decide⟩
theorem eqa_36:EqA Tryz.prog 36 (λx:y_=>Value.agg #[x.path.v,vI x.rule,vI x.start,vI x.end_]):=⟨λx y=>⟨_,_,_,rfl,rfl,Tryz.underlying36,(show decide (x=y)=((x.path.b==y.path.b) && ((x.rule==y.rule) && ((x.start==y.start) && ((x.end_==y.end_) && true)))) from Bool.eq_iff_iff.2 (by cases x;cases y;simp [Str.beq_dec])) ▸ (.cons rfl Tryz.isAgg9 rfl rfl (.str Tryz.underlying9)<|.cons rfl Tryz.isAgg3 rfl rfl (.int Tryz.underlying3)<|.cons rfl Tryz.isAgg3 rfl rfl (.int Tryz.underlying3)<|.cons rfl Tryz.isAgg3 rfl rfl (.int Tryz.underlying3) .nil)⟩,by kernel_rfl,by kernel_rfl⟩
theorem m_r:Fld Tryz.prog 131 0 0:=⟨_,_,Tryz.underlying131,rfl,rfl,1,λw=>Tryz.sizeOf26 w,by decide⟩
theorem d_J:Fld Tryz.prog 131 1 1:=⟨_,_,Tryz.underlying131,rfl,rfl,1,λw=>Tryz.sizeOf22 w,by decide⟩
theorem i_O:Fld Tryz.prog 131 2 2:=⟨_,_,Tryz.underlying131,rfl,rfl,1,λw=>Tryz.sizeOf3 w,by decide⟩
theorem c_U:Fld Tryz.prog 133 0 0:=⟨_,_,Tryz.underlying133,rfl,rfl,1,λw=>Tryz.sizeOf3 w,by decide⟩
theorem d_j:Fld Tryz.prog 133 1 1:=⟨_,_,Tryz.underlying133,rfl,rfl,1,λw=>Tryz.sizeOf3 w,by decide⟩
theorem m_s:Fld Tryz.prog 137 0 0:=⟨_,_,Tryz.underlying137,rfl,rfl,1,λw=>Tryz.sizeOf26 w,by decide⟩
theorem f_y:Fld Tryz.prog 137 1 1:=⟨_,_,Tryz.underlying137,rfl,rfl,1,λw=>Tryz.sizeOf22 w,by decide⟩
theorem q_s:Fld Tryz.prog 146 0 0:=⟨_,_,Tryz.underlying146,rfl,rfl,1,λw=>Tryz.sizeOf3 w,by decide⟩
theorem q_t:Fld Tryz.prog 146 1 1:=⟨_,_,Tryz.underlying146,rfl,rfl,1,λw=>Tryz.sizeOf3 w,by decide⟩
theorem q_u:Fld Tryz.prog 157 0 0:=⟨_,_,Tryz.underlying157,rfl,rfl,1,λw=>Tryz.sizeOf58 w,by decide⟩
theorem a_3:Fld Tryz.prog 26 0 0:=⟨_,_,Tryz.underlying26,rfl,rfl,1,λw=>Tryz.sizeOf24 w,by decide⟩
theorem a_S:Fld Tryz.prog 32 0 0:=⟨_,_,Tryz.underlying32,rfl,rfl,1,λw=>Tryz.sizeOf3 w,by decide⟩
theorem a_T:Fld Tryz.prog 32 1 1:=⟨_,_,Tryz.underlying32,rfl,rfl,1,λw=>Tryz.sizeOf22 w,by decide⟩
theorem V_:Fld Tryz.prog 32 2 2:=⟨_,_,Tryz.underlying32,rfl,rfl,1,λw=>Tryz.sizeOf30 w,by decide⟩
theorem g_S:Fld Tryz.prog 36 0 0:=⟨_,_,Tryz.underlying36,rfl,rfl,1,λw=>Tryz.sizeOf9 w,by decide⟩
theorem m_t:Fld Tryz.prog 36 1 1:=⟨_,_,Tryz.underlying36,rfl,rfl,1,λw=>Tryz.sizeOf3 w,by decide⟩
theorem f_36_2:Fld Tryz.prog 36 2 2:=⟨_,_,Tryz.underlying36,rfl,rfl,1,λw=>Tryz.sizeOf3 w,by decide⟩
theorem k_d:Fld Tryz.prog 64 0 0:=⟨_,_,Tryz.underlying64,rfl,rfl,1,λw=>Tryz.sizeOf26 w,by decide⟩
theorem i_P:Fld Tryz.prog 64 1 1:=⟨_,_,Tryz.underlying64,rfl,rfl,1,λw=>Tryz.sizeOf22 w,by decide⟩
theorem e_Q:Fld Tryz.prog 64 2 2:=⟨_,_,Tryz.underlying64,rfl,rfl,1,λw=>Tryz.sizeOf3 w,by decide⟩
theorem d_k:Fld Tryz.prog 64 3 3:=⟨_,_,Tryz.underlying64,rfl,rfl,1,λw=>Tryz.sizeOf3 w,by decide⟩
theorem f_z:Fld Tryz.prog 73 0 0:=⟨_,_,Tryz.underlying73,rfl,rfl,1,λw=>Tryz.sizeOf9 w,by decide⟩
theorem a_u:Fld Tryz.prog 73 1 1:=⟨_,_,Tryz.underlying73,rfl,rfl,1,λw=>Tryz.sizeOf3 w,by decide⟩
theorem a_F:Fld Tryz.prog 73 2 2:=⟨_,_,Tryz.underlying73,rfl,rfl,1,λw=>Tryz.sizeOf3 w,by decide⟩
theorem c_V:Fld Tryz.prog 73 3 3:=⟨_,_,Tryz.underlying73,rfl,rfl,1,λw=>Tryz.sizeOf4 w,by decide⟩
theorem b_6:Fld Tryz.prog 73 4 4:=⟨_,_,Tryz.underlying73,rfl,rfl,1,λw=>Tryz.sizeOf22 w,by decide⟩
theorem c_e:Fld Tryz.prog 73 5 5:=⟨_,_,Tryz.underlying73,rfl,rfl,1,λw=>Tryz.sizeOf58 w,by decide⟩
theorem b_1:Fld Tryz.prog 73 6 6:=⟨_,_,Tryz.underlying73,rfl,rfl,1,λw=>Tryz.sizeOf71 w,by decide⟩
theorem J_:Fld Tryz.prog 73 7 7:=⟨_,_,Tryz.underlying73,rfl,rfl,1,λw=>Tryz.sizeOf71 w,by decide⟩
theorem m_u:Fld Tryz.prog 77 0 0:=⟨_,_,Tryz.underlying77,rfl,rfl,1,λw=>Tryz.sizeOf22 w,by decide⟩
theorem i_Q:Fld Tryz.prog 77 1 1:=⟨_,_,Tryz.underlying77,rfl,rfl,1,λw=>Tryz.sizeOf3 w,by decide⟩
theorem i_R:Fld Tryz.prog 77 2 2:=⟨_,_,Tryz.underlying77,rfl,rfl,1,λw=>Tryz.sizeOf3 w,by decide⟩
abbrev K_:=@Tryz.sizeOf133
abbrev z_152:=@Tryz.sizeOf152
abbrev z_153:=@Tryz.sizeOf153
abbrev z_154:=@Tryz.sizeOf154
abbrev z_157:=@Tryz.sizeOf157
abbrev z_158:=@Tryz.sizeOf158
abbrev z_159:=@Tryz.sizeOf159
abbrev z_160:=@Tryz.sizeOf160
abbrev z_22:=@Tryz.sizeOf22
abbrev z_24:=@Tryz.sizeOf24
abbrev r_:=@Tryz.sizeOf26
abbrev z_3:=@Tryz.sizeOf3
abbrev d_K:=@Tryz.sizeOf30
abbrev h_:=@Tryz.sizeOf32
abbrev b_A:=@Tryz.sizeOf36
abbrev z_4:=@Tryz.sizeOf4
abbrev z_5:=@Tryz.sizeOf5
abbrev e_R:=@Tryz.sizeOf58
abbrev e_S:=@Tryz.sizeOf71
abbrev o_:=@Tryz.sizeOf73
abbrev z_9:=@Tryz.sizeOf9
abbrev d_L:=@Tryz.underlying139
abbrev d_142:=@Tryz.underlying142
abbrev d_144:=@Tryz.underlying144
abbrev d_152:=@Tryz.underlying152
abbrev d_153:=@Tryz.underlying153
abbrev d_154:=@Tryz.underlying154
abbrev d_157:=@Tryz.underlying157
abbrev d_158:=@Tryz.underlying158
abbrev d_159:=@Tryz.underlying159
abbrev d_160:=@Tryz.underlying160
abbrev d_189:=@Tryz.underlying189
abbrev n_:=@Tryz.underlying22
abbrev a_a:=@Tryz.underlying24
abbrev e_k:=@Tryz.underlying27
abbrev d_3:=@Tryz.underlying3
abbrev a_i:=@Tryz.underlying30
abbrev d_5:=@Tryz.underlying5
abbrev a_n:=@Tryz.underlying58
abbrev v_:=@Tryz.underlying71
abbrev d_9:=@Tryz.underlying9
theorem b_O (w:World):(zeroValue 133).run Tryz.prog w = .ok (.agg #[(.int .i64 0),(.int .i64 0)]) w:=Tryz.zeroValue133 w
theorem q_v (w:World):(zeroValue 142).run Tryz.prog w = .ok (.pointer none) w:=Tryz.zeroValue142 w
theorem q_w (w:World):(zeroValue 152).run Tryz.prog w = .ok (.agg #[]) w:=Tryz.zeroValue152 w
theorem q_x (w:World):(zeroValue 153).run Tryz.prog w = .ok (.agg #[]) w:=Tryz.zeroValue153 w
theorem q_y (w:World):(zeroValue 154).run Tryz.prog w = .ok (.agg #[]) w:=Tryz.zeroValue154 w
theorem q_z (w:World):(zeroValue 157).run Tryz.prog w = .ok (.agg #[(.slice none 0 0)]) w:=Tryz.zeroValue157 w
theorem q_A (w:World):(zeroValue 158).run Tryz.prog w = .ok (.agg #[]) w:=Tryz.zeroValue158 w
theorem q_B (w:World):(zeroValue 159).run Tryz.prog w = .ok (.agg #[]) w:=Tryz.zeroValue159 w
theorem q_C (w:World):(zeroValue 160).run Tryz.prog w = .ok (.agg #[]) w:=Tryz.zeroValue160 w
theorem g_T (w:World):(zeroValue 26).run Tryz.prog w = .ok (.agg #[(.slice none 0 0)]) w:=Tryz.zeroValue26 w
theorem zero_3 (w:World):(zeroValue 3).run Tryz.prog w = .ok (.int .i64 0) w:=Tryz.zeroValue3 w
theorem a_4 (w:World):(zeroValue 32).run Tryz.prog w = .ok (.agg #[(.int .i64 0),.slice none 0 0,(.slice none 0 0)]) w:=Tryz.zeroValue32 w
theorem i_S (w:World):(zeroValue 36).run Tryz.prog w = .ok (.agg #[(Str.v ⟨[]⟩),.int .i64 0,.int .i64 0,(.int .i64 0)]) w:=Tryz.zeroValue36 w
theorem zero_4 (w:World):(zeroValue 4).run Tryz.prog w = .ok (.bool false) w:=Tryz.zeroValue4 w
theorem m_v (w:World):(zeroValue 58).run Tryz.prog w = .ok (.slice none 0 0) w:=Tryz.zeroValue58 w
theorem b_P (w:World):(zeroValue 73).run Tryz.prog w = .ok (.agg #[(Str.v ⟨[]⟩),.int .i64 0,.int .i64 0,.bool false,.slice none 0 0,.slice none 0 0,.slice none 0 0,(.slice none 0 0)]) w:=Tryz.zeroValue73 w
end Go.Vw
