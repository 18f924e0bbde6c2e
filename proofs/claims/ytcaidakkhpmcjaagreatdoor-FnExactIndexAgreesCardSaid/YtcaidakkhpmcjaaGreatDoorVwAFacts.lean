
import Derived.Test.YtcaidakkhpmcjaaGreatDoorVmA
import Derived.Test.YtcaidakkhpmcjaaGreatDoorProg
set_option linter.unusedVariables false
namespace Go.Vw
open Go.RowKit Dat Go.Proofs
theorem mo:Tryz.prog.follows .mixedOrders=true:=by kernel_rfl
abbrev g_119:=@Tryz.isAgg119
abbrev a_g:=@Tryz.isAgg141
abbrev g_22:=@Tryz.isAgg22
abbrev g_24:=@Tryz.isAgg24
abbrev R_:=@Tryz.isAgg25
abbrev a_d:=@Tryz.isAgg28
abbrev g_3:=@Tryz.isAgg3
abbrev w_:=@Tryz.isAgg30
abbrev g_37:=@Tryz.isAgg37
abbrev g_4:=@Tryz.isAgg4
abbrev a_2:=@Tryz.isAgg40
abbrev r_:=@Tryz.isAgg42
abbrev c_2:=@Tryz.isAgg46
abbrev g_5:=@Tryz.isAgg5
abbrev a_I:=@Tryz.isAgg57
abbrev A_:=@Tryz.isAgg58
abbrev g_60:=@Tryz.isAgg60
abbrev G_:=@Tryz.isAgg73
abbrev g_84:=@Tryz.isAgg84
abbrev g_9:=@Tryz.isAgg9
theorem o_l:c_Y Tryz.prog 114 [(.slice none 0 0),(.slice none 0 0)] [(0,1),(1,1)]:=⟨fun w=>Tryz.zeroValue114 w,_,Tryz.underlying114,fun w=>by simp [Tryz.sizeOf25,Tryz.sizeOf30]⟩
theorem o_m:c_Y Tryz.prog 123 [(.int .i64 0),(.int .i64 0)] [(0,1),(1,1)]:=⟨fun w=>Tryz.zeroValue123 w,_,Tryz.underlying123,fun w=>by simp [Tryz.sizeOf3]⟩
theorem o_n:c_Y Tryz.prog 139 [(.slice none 0 0),.slice none 0 0,(.int .i64 0)] [(0,1),(1,1),(2,1)]:=⟨fun w=>Tryz.zeroValue139 w,_,Tryz.underlying139,fun w=>by simp [Tryz.sizeOf25,Tryz.sizeOf3,Tryz.sizeOf30]⟩
theorem c_c:c_Y Tryz.prog 141 [(.int .i64 0),(.int .i64 0)] [(0,1),(1,1)]:=⟨fun w=>Tryz.zeroValue141 w,_,Tryz.underlying141,fun w=>by simp [Tryz.sizeOf3]⟩
theorem L_:c_Y Tryz.prog 42 [(.int .i64 0),.slice none 0 0,(.slice none 0 0)] [(0,1),(1,1),(2,1)]:=⟨fun w=>Tryz.zeroValue42 w,_,Tryz.underlying42,fun w=>by simp [Tryz.sizeOf25,Tryz.sizeOf3,Tryz.sizeOf40]⟩
theorem c_M:c_Y Tryz.prog 46 [(Str.v ⟨[]⟩),.int .i64 0,.int .i64 0,(.int .i64 0)] [(0,1),(1,1),(2,1),(3,1)]:=⟨fun w=>Tryz.zeroValue46 w,_,Tryz.underlying46,fun w=>by simp [Tryz.sizeOf3,Tryz.sizeOf9]⟩
theorem o_o:c_Y Tryz.prog 78 [(.slice none 0 0),.slice none 0 0,(.slice none 0 0)] [(0,1),(1,1),(2,1)]:=⟨fun w=>Tryz.zeroValue78 w,_,Tryz.underlying78,fun w=>by simp [Tryz.sizeOf25,Tryz.sizeOf30,Tryz.sizeOf37]⟩
theorem o_p:c_Y Tryz.prog 83 [(.slice none 0 0),.slice none 0 0,.int .i64 0,(.int .i64 0)] [(0,1),(1,1),(2,1),(3,1)]:=⟨fun w=>Tryz.zeroValue83 w,_,Tryz.underlying83,fun w=>by simp [Tryz.sizeOf25,Tryz.sizeOf3,Tryz.sizeOf30]⟩
theorem a_o:El Tryz.prog 25 5 1 1 (.int .u8 0):=⟨Tryz.underlying25,by kernel_rfl,rfl,by decide,by decide⟩
theorem el_28:El Tryz.prog 28 73 8 136 (.agg #[(Str.v ⟨[]⟩),.int .i64 0,.int .i64 0,.bool false,.slice none 0 0,.slice none 0 0,.slice none 0 0,(.slice none 0 0)]):=⟨Tryz.underlying28,by kernel_rfl,rfl,by decide,by decide⟩
theorem e_S:El Tryz.prog 37 46 4 40 (.agg #[(Str.v ⟨[]⟩),.int .i64 0,.int .i64 0,(.int .i64 0)]):=⟨Tryz.underlying37,by kernel_rfl,rfl,by decide,by decide⟩
theorem b_x:El Tryz.prog 40 42 3 56 (.agg #[(.int .i64 0),.slice none 0 0,(.slice none 0 0)]):=⟨Tryz.underlying40,by kernel_rfl,rfl,by decide,by decide⟩
theorem b_C:El Tryz.prog 57 9 1 16 (Str.v ⟨[]⟩):=⟨Tryz.underlying57,by kernel_rfl,rfl,by decide,by decide⟩
theorem j_j:El Tryz.prog 58 3 1 8 (.int .i64 0):=⟨Tryz.underlying58,by kernel_rfl,rfl,by decide,by decide⟩
theorem l_e:EqA Tryz.prog 46 (fun x:k_=>Value.agg #[x.path.v,vI x.rule,vI x.start,vI x.end_]):=⟨fun x y=>⟨_,_,_,rfl,rfl,Tryz.underlying46,(show decide (x=y)=((x.path.b==y.path.b) && ((x.rule==y.rule) && ((x.start==y.start) && ((x.end_==y.end_) && true)))) from Bool.eq_iff_iff.2 (by cases x;cases y;simp [Str.beq_dec])) ▸ (.cons rfl Tryz.isAgg9 rfl rfl (.str Tryz.underlying9)<|.cons rfl Tryz.isAgg3 rfl rfl (.int Tryz.underlying3)<|.cons rfl Tryz.isAgg3 rfl rfl (.int Tryz.underlying3)<|.cons rfl Tryz.isAgg3 rfl rfl (.int Tryz.underlying3) .nil)⟩,by kernel_rfl,by kernel_rfl⟩
theorem l_f:Fld Tryz.prog 114 0 0:=⟨_,_,Tryz.underlying114,rfl,rfl,1,fun w=>Tryz.sizeOf30 w,by decide⟩
theorem e_T:Fld Tryz.prog 114 1 1:=⟨_,_,Tryz.underlying114,rfl,rfl,1,fun w=>Tryz.sizeOf25 w,by decide⟩
theorem o_q:Fld Tryz.prog 123 0 0:=⟨_,_,Tryz.underlying123,rfl,rfl,1,fun w=>Tryz.sizeOf3 w,by decide⟩
theorem o_r:Fld Tryz.prog 123 1 1:=⟨_,_,Tryz.underlying123,rfl,rfl,1,fun w=>Tryz.sizeOf3 w,by decide⟩
theorem l_g:Fld Tryz.prog 139 0 0:=⟨_,_,Tryz.underlying139,rfl,rfl,1,fun w=>Tryz.sizeOf30 w,by decide⟩
theorem d_c:Fld Tryz.prog 139 1 1:=⟨_,_,Tryz.underlying139,rfl,rfl,1,fun w=>Tryz.sizeOf25 w,by decide⟩
theorem h_R:Fld Tryz.prog 139 2 2:=⟨_,_,Tryz.underlying139,rfl,rfl,1,fun w=>Tryz.sizeOf3 w,by decide⟩
theorem c_r:Fld Tryz.prog 141 0 0:=⟨_,_,Tryz.underlying141,rfl,rfl,1,fun w=>Tryz.sizeOf3 w,by decide⟩
theorem c_N:Fld Tryz.prog 141 1 1:=⟨_,_,Tryz.underlying141,rfl,rfl,1,fun w=>Tryz.sizeOf3 w,by decide⟩
theorem l_h:Fld Tryz.prog 24 0 0:=⟨_,_,Tryz.underlying24,rfl,rfl,1,fun w=>Tryz.sizeOf22 w,by decide⟩
theorem a_9:Fld Tryz.prog 30 0 0:=⟨_,_,Tryz.underlying30,rfl,rfl,1,fun w=>Tryz.sizeOf28 w,by decide⟩
theorem b_0:Fld Tryz.prog 42 0 0:=⟨_,_,Tryz.underlying42,rfl,rfl,1,fun w=>Tryz.sizeOf3 w,by decide⟩
theorem b_j:Fld Tryz.prog 42 1 1:=⟨_,_,Tryz.underlying42,rfl,rfl,1,fun w=>Tryz.sizeOf25 w,by decide⟩
theorem Z_:Fld Tryz.prog 42 2 2:=⟨_,_,Tryz.underlying42,rfl,rfl,1,fun w=>Tryz.sizeOf40 w,by decide⟩
theorem e_U:Fld Tryz.prog 46 0 0:=⟨_,_,Tryz.underlying46,rfl,rfl,1,fun w=>Tryz.sizeOf9 w,by decide⟩
theorem h_S:Fld Tryz.prog 46 1 1:=⟨_,_,Tryz.underlying46,rfl,rfl,1,fun w=>Tryz.sizeOf3 w,by decide⟩
theorem l_i:Fld Tryz.prog 46 2 2:=⟨_,_,Tryz.underlying46,rfl,rfl,1,fun w=>Tryz.sizeOf3 w,by decide⟩
theorem f_46_3:Fld Tryz.prog 46 3 3:=⟨_,_,Tryz.underlying46,rfl,rfl,1,fun w=>Tryz.sizeOf3 w,by decide⟩
theorem l_j:Fld Tryz.prog 60 0 0:=⟨_,_,Tryz.underlying60,rfl,rfl,1,fun w=>Tryz.sizeOf9 w,by decide⟩
theorem f_60_1:Fld Tryz.prog 60 1 1:=⟨_,_,Tryz.underlying60,rfl,rfl,1,fun w=>Tryz.sizeOf3 w,by decide⟩
theorem f_60_2:Fld Tryz.prog 60 2 2:=⟨_,_,Tryz.underlying60,rfl,rfl,1,fun w=>Tryz.sizeOf3 w,by decide⟩
theorem f_60_3:Fld Tryz.prog 60 3 3:=⟨_,_,Tryz.underlying60,rfl,rfl,1,fun w=>Tryz.sizeOf4 w,by decide⟩
theorem l_k:Fld Tryz.prog 60 4 4:=⟨_,_,Tryz.underlying60,rfl,rfl,1,fun w=>Tryz.sizeOf25 w,by decide⟩
theorem l_l:Fld Tryz.prog 60 5 5:=⟨_,_,Tryz.underlying60,rfl,rfl,1,fun w=>Tryz.sizeOf57 w,by decide⟩
theorem l_m:Fld Tryz.prog 60 6 6:=⟨_,_,Tryz.underlying60,rfl,rfl,1,fun w=>Tryz.sizeOf58 w,by decide⟩
theorem l_n:Fld Tryz.prog 60 7 7:=⟨_,_,Tryz.underlying60,rfl,rfl,1,fun w=>Tryz.sizeOf58 w,by decide⟩
theorem d_d:Fld Tryz.prog 73 0 0:=⟨_,_,Tryz.underlying73,rfl,rfl,1,fun w=>Tryz.sizeOf9 w,by decide⟩
theorem a_e:Fld Tryz.prog 73 1 1:=⟨_,_,Tryz.underlying73,rfl,rfl,1,fun w=>Tryz.sizeOf3 w,by decide⟩
theorem a_F:Fld Tryz.prog 73 2 2:=⟨_,_,Tryz.underlying73,rfl,rfl,1,fun w=>Tryz.sizeOf3 w,by decide⟩
theorem c_s:Fld Tryz.prog 73 3 3:=⟨_,_,Tryz.underlying73,rfl,rfl,1,fun w=>Tryz.sizeOf4 w,by decide⟩
theorem b_1:Fld Tryz.prog 73 4 4:=⟨_,_,Tryz.underlying73,rfl,rfl,1,fun w=>Tryz.sizeOf25 w,by decide⟩
theorem b_y:Fld Tryz.prog 73 5 5:=⟨_,_,Tryz.underlying73,rfl,rfl,1,fun w=>Tryz.sizeOf57 w,by decide⟩
theorem a_R:Fld Tryz.prog 73 6 6:=⟨_,_,Tryz.underlying73,rfl,rfl,1,fun w=>Tryz.sizeOf58 w,by decide⟩
theorem N_:Fld Tryz.prog 73 7 7:=⟨_,_,Tryz.underlying73,rfl,rfl,1,fun w=>Tryz.sizeOf58 w,by decide⟩
theorem f_W:Fld Tryz.prog 78 0 0:=⟨_,_,Tryz.underlying78,rfl,rfl,1,fun w=>Tryz.sizeOf30 w,by decide⟩
theorem f_78_1:Fld Tryz.prog 78 1 1:=⟨_,_,Tryz.underlying78,rfl,rfl,1,fun w=>Tryz.sizeOf25 w,by decide⟩
theorem f_X:Fld Tryz.prog 78 2 2:=⟨_,_,Tryz.underlying78,rfl,rfl,1,fun w=>Tryz.sizeOf37 w,by decide⟩
theorem j_k:Fld Tryz.prog 83 0 0:=⟨_,_,Tryz.underlying83,rfl,rfl,1,fun w=>Tryz.sizeOf30 w,by decide⟩
theorem h_T:Fld Tryz.prog 83 1 1:=⟨_,_,Tryz.underlying83,rfl,rfl,1,fun w=>Tryz.sizeOf25 w,by decide⟩
theorem e_j:Fld Tryz.prog 83 2 2:=⟨_,_,Tryz.underlying83,rfl,rfl,1,fun w=>Tryz.sizeOf3 w,by decide⟩
theorem c_O:Fld Tryz.prog 83 3 3:=⟨_,_,Tryz.underlying83,rfl,rfl,1,fun w=>Tryz.sizeOf3 w,by decide⟩
abbrev E_:=@Tryz.sizeOf141
abbrev z_24:=@Tryz.sizeOf24
abbrev z_25:=@Tryz.sizeOf25
abbrev z_28:=@Tryz.sizeOf28
abbrev z_3:=@Tryz.sizeOf3
abbrev u_:=@Tryz.sizeOf30
abbrev z_37:=@Tryz.sizeOf37
abbrev z_4:=@Tryz.sizeOf4
abbrev z_40:=@Tryz.sizeOf40
abbrev c_:=@Tryz.sizeOf42
abbrev a_v:=@Tryz.sizeOf46
abbrev z_5:=@Tryz.sizeOf5
abbrev e_k:=@Tryz.sizeOf57
abbrev z_58:=@Tryz.sizeOf58
abbrev z_60:=@Tryz.sizeOf60
abbrev m_:=@Tryz.sizeOf73
abbrev z_9:=@Tryz.sizeOf9
abbrev d_e:=@Tryz.underlying116
abbrev d_119:=@Tryz.underlying119
abbrev d_121:=@Tryz.underlying121
abbrev d_C:=@Tryz.underlying22
abbrev o_:=@Tryz.underlying25
abbrev a_0:=@Tryz.underlying28
abbrev d_3:=@Tryz.underlying3
abbrev c_P:=@Tryz.underlying37
abbrev d_4:=@Tryz.underlying4
abbrev a_a:=@Tryz.underlying40
abbrev d_5:=@Tryz.underlying5
abbrev T_:=@Tryz.underlying57
abbrev x_:=@Tryz.underlying58
abbrev d_80:=@Tryz.underlying80
abbrev d_9:=@Tryz.underlying9
theorem o_s (w:World):(zeroValue 119).run Tryz.prog w = .ok (.pointer none) w:=Tryz.zeroValue119 w
theorem b_k (w:World):(zeroValue 141).run Tryz.prog w = .ok (.agg #[(.int .i64 0),(.int .i64 0)]) w:=Tryz.zeroValue141 w
theorem zero_3 (w:World):(zeroValue 3).run Tryz.prog w = .ok (.int .i64 0) w:=Tryz.zeroValue3 w
theorem j_l (w:World):(zeroValue 30).run Tryz.prog w = .ok (.agg #[(.slice none 0 0)]) w:=Tryz.zeroValue30 w
theorem zero_4 (w:World):(zeroValue 4).run Tryz.prog w = .ok (.bool false) w:=Tryz.zeroValue4 w
theorem J_ (w:World):(zeroValue 42).run Tryz.prog w = .ok (.agg #[(.int .i64 0),.slice none 0 0,(.slice none 0 0)]) w:=Tryz.zeroValue42 w
theorem d_D (w:World):(zeroValue 46).run Tryz.prog w = .ok (.agg #[(Str.v ⟨[]⟩),.int .i64 0,.int .i64 0,(.int .i64 0)]) w:=Tryz.zeroValue46 w
theorem l_o (w:World):(zeroValue 57).run Tryz.prog w = .ok (.slice none 0 0) w:=Tryz.zeroValue57 w
theorem b_l (w:World):(zeroValue 73).run Tryz.prog w = .ok (.agg #[(Str.v ⟨[]⟩),.int .i64 0,.int .i64 0,.bool false,.slice none 0 0,.slice none 0 0,.slice none 0 0,(.slice none 0 0)]) w:=Tryz.zeroValue73 w
end Go.Vw
