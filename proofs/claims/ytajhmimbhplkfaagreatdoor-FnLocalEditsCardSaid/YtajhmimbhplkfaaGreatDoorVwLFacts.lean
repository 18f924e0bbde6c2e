
import Derived.Test.YtajhmimbhplkfaaGreatDoorVmA
import Derived.Test.YtajhmimbhplkfaaGreatDoorProg
set_option linter.unusedVariables false
namespace Go.Vw
open Go.RowKit Dat Go.Proofs
theorem mo:Tryz.prog.follows .mixedOrders=true:=by kernel_rfl
abbrev g_157:=@Tryz.isAgg157
abbrev X_:=@Tryz.isAgg22
abbrev g_226:=@Tryz.isAgg226
abbrev a_f:=@Tryz.isAgg235
abbrev a_6:=@Tryz.isAgg24
abbrev v_:=@Tryz.isAgg26
abbrev g_3:=@Tryz.isAgg3
abbrev c_T:=@Tryz.isAgg33
abbrev g_4:=@Tryz.isAgg4
abbrev c_2:=@Tryz.isAgg46
abbrev x_:=@Tryz.isAgg48
abbrev g_5:=@Tryz.isAgg5
abbrev b_i:=@Tryz.isAgg51
abbrev C_:=@Tryz.isAgg52
abbrev I_:=@Tryz.isAgg54
abbrev g_9:=@Tryz.isAgg9
theorem o_0:c_n Tryz.prog 144 [(.slice none 0 0),.int .i64 0,(.int .i64 0)] [(0,1),(1,1),(2,1)]:=⟨fun w=>Tryz.zeroValue144 w,_,Tryz.underlying144,fun w=>by simp [Tryz.sizeOf22,Tryz.sizeOf3]⟩
theorem o_1:c_n Tryz.prog 156 [(.slice none 0 0),.slice none 0 0,.int .i64 0,(.int .i64 0)] [(0,1),(1,1),(2,1),(3,1)]:=⟨fun w=>Tryz.zeroValue156 w,_,Tryz.underlying156,fun w=>by simp [Tryz.sizeOf22,Tryz.sizeOf26,Tryz.sizeOf3]⟩
theorem o_2:c_n Tryz.prog 221 [(.slice none 0 0),(.slice none 0 0)] [(0,1),(1,1)]:=⟨fun w=>Tryz.zeroValue221 w,_,Tryz.underlying221,fun w=>by simp [Tryz.sizeOf22,Tryz.sizeOf26]⟩
theorem o_3:c_n Tryz.prog 230 [(.int .i64 0),(.int .i64 0)] [(0,1),(1,1)]:=⟨fun w=>Tryz.zeroValue230 w,_,Tryz.underlying230,fun w=>by simp [Tryz.sizeOf3]⟩
theorem o_4:c_n Tryz.prog 233 [(.slice none 0 0),.slice none 0 0,(.int .i64 0)] [(0,1),(1,1),(2,1)]:=⟨fun w=>Tryz.zeroValue233 w,_,Tryz.underlying233,fun w=>by simp [Tryz.sizeOf22,Tryz.sizeOf26,Tryz.sizeOf3]⟩
theorem c_o:c_n Tryz.prog 235 [(.int .i64 0),(.int .i64 0)] [(0,1),(1,1)]:=⟨fun w=>Tryz.zeroValue235 w,_,Tryz.underlying235,fun w=>by simp [Tryz.sizeOf3]⟩
theorem o_5:c_n Tryz.prog 26 [(.slice none 0 0)] [(0,1)]:=⟨fun w=>Tryz.zeroValue26 w,_,Tryz.underlying26,fun w=>by simp [Tryz.sizeOf24]⟩
theorem d_i:c_n Tryz.prog 33 [(Str.v ⟨[]⟩),.int .i64 0,.int .i64 0,(.int .i64 0)] [(0,1),(1,1),(2,1),(3,1)]:=⟨fun w=>Tryz.zeroValue33 w,_,Tryz.underlying33,fun w=>by simp [Tryz.sizeOf3,Tryz.sizeOf9]⟩
theorem a_3:c_n Tryz.prog 48 [(.int .i64 0),.slice none 0 0,(.slice none 0 0)] [(0,1),(1,1),(2,1)]:=⟨fun w=>Tryz.zeroValue48 w,_,Tryz.underlying48,fun w=>by simp [Tryz.sizeOf22,Tryz.sizeOf3,Tryz.sizeOf46]⟩
theorem o_6:c_n Tryz.prog 54 [(Str.v ⟨[]⟩),.int .i64 0,.int .i64 0,.bool false,.slice none 0 0,.slice none 0 0,.slice none 0 0,(.slice none 0 0)] [(0,1),(1,1),(2,1),(3,1),(4,1),(5,1),(6,1),(7,1)]:=⟨fun w=>Tryz.zeroValue54 w,_,Tryz.underlying54,fun w=>by simp [Tryz.sizeOf22,Tryz.sizeOf3,Tryz.sizeOf4,Tryz.sizeOf51,Tryz.sizeOf52,Tryz.sizeOf9]⟩
theorem R_:El Tryz.prog 22 5 1 1 (.int .u8 0):=⟨Tryz.underlying22,by kernel_rfl,rfl,by decide,by decide⟩
theorem h_M:El Tryz.prog 24 54 8 136 (.agg #[(Str.v ⟨[]⟩),.int .i64 0,.int .i64 0,.bool false,.slice none 0 0,.slice none 0 0,.slice none 0 0,(.slice none 0 0)]):=⟨Tryz.underlying24,by kernel_rfl,rfl,by decide,by decide⟩
theorem j_2:El Tryz.prog 36 33 4 40 (.agg #[(Str.v ⟨[]⟩),.int .i64 0,.int .i64 0,(.int .i64 0)]):=⟨Tryz.underlying36,by kernel_rfl,rfl,by decide,by decide⟩
theorem c_B:El Tryz.prog 46 48 3 56 (.agg #[(.int .i64 0),.slice none 0 0,(.slice none 0 0)]):=⟨Tryz.underlying46,by kernel_rfl,rfl,by decide,by decide⟩
theorem b_5:El Tryz.prog 51 9 1 16 (Str.v ⟨[]⟩):=⟨Tryz.underlying51,by kernel_rfl,rfl,by decide,by decide⟩
theorem b_J:El Tryz.prog 52 3 1 8 (.int .i64 0):=⟨Tryz.underlying52,by kernel_rfl,rfl,by decide,by decide⟩
theorem k_V:Fld Tryz.prog 144 0 0:=⟨_,_,Tryz.underlying144,rfl,rfl,1,fun w=>Tryz.sizeOf22 w,by decide⟩
theorem h_N:Fld Tryz.prog 144 1 1:=⟨_,_,Tryz.underlying144,rfl,rfl,1,fun w=>Tryz.sizeOf3 w,by decide⟩
theorem h_O:Fld Tryz.prog 144 2 2:=⟨_,_,Tryz.underlying144,rfl,rfl,1,fun w=>Tryz.sizeOf3 w,by decide⟩
theorem j_3:Fld Tryz.prog 156 0 0:=⟨_,_,Tryz.underlying156,rfl,rfl,1,fun w=>Tryz.sizeOf26 w,by decide⟩
theorem h_P:Fld Tryz.prog 156 1 1:=⟨_,_,Tryz.underlying156,rfl,rfl,1,fun w=>Tryz.sizeOf22 w,by decide⟩
theorem e_h:Fld Tryz.prog 156 2 2:=⟨_,_,Tryz.underlying156,rfl,rfl,1,fun w=>Tryz.sizeOf3 w,by decide⟩
theorem c_U:Fld Tryz.prog 156 3 3:=⟨_,_,Tryz.underlying156,rfl,rfl,1,fun w=>Tryz.sizeOf3 w,by decide⟩
theorem k_W:Fld Tryz.prog 221 0 0:=⟨_,_,Tryz.underlying221,rfl,rfl,1,fun w=>Tryz.sizeOf26 w,by decide⟩
theorem e_X:Fld Tryz.prog 221 1 1:=⟨_,_,Tryz.underlying221,rfl,rfl,1,fun w=>Tryz.sizeOf22 w,by decide⟩
theorem o_7:Fld Tryz.prog 230 0 0:=⟨_,_,Tryz.underlying230,rfl,rfl,1,fun w=>Tryz.sizeOf3 w,by decide⟩
theorem o_8:Fld Tryz.prog 230 1 1:=⟨_,_,Tryz.underlying230,rfl,rfl,1,fun w=>Tryz.sizeOf3 w,by decide⟩
theorem k_X:Fld Tryz.prog 233 0 0:=⟨_,_,Tryz.underlying233,rfl,rfl,1,fun w=>Tryz.sizeOf26 w,by decide⟩
theorem d_j:Fld Tryz.prog 233 1 1:=⟨_,_,Tryz.underlying233,rfl,rfl,1,fun w=>Tryz.sizeOf22 w,by decide⟩
theorem h_Q:Fld Tryz.prog 233 2 2:=⟨_,_,Tryz.underlying233,rfl,rfl,1,fun w=>Tryz.sizeOf3 w,by decide⟩
theorem c_C:Fld Tryz.prog 235 0 0:=⟨_,_,Tryz.underlying235,rfl,rfl,1,fun w=>Tryz.sizeOf3 w,by decide⟩
theorem c_V:Fld Tryz.prog 235 1 1:=⟨_,_,Tryz.underlying235,rfl,rfl,1,fun w=>Tryz.sizeOf3 w,by decide⟩
theorem a_4:Fld Tryz.prog 26 0 0:=⟨_,_,Tryz.underlying26,rfl,rfl,1,fun w=>Tryz.sizeOf24 w,by decide⟩
theorem k_Y:Fld Tryz.prog 33 1 1:=⟨_,_,Tryz.underlying33,rfl,rfl,1,fun w=>Tryz.sizeOf3 w,by decide⟩
theorem b_D:Fld Tryz.prog 33 2 2:=⟨_,_,Tryz.underlying33,rfl,rfl,1,fun w=>Tryz.sizeOf3 w,by decide⟩
theorem c_p:Fld Tryz.prog 33 3 3:=⟨_,_,Tryz.underlying33,rfl,rfl,1,fun w=>Tryz.sizeOf3 w,by decide⟩
theorem d_M:Fld Tryz.prog 48 0 0:=⟨_,_,Tryz.underlying48,rfl,rfl,1,fun w=>Tryz.sizeOf3 w,by decide⟩
theorem c_q:Fld Tryz.prog 48 1 1:=⟨_,_,Tryz.underlying48,rfl,rfl,1,fun w=>Tryz.sizeOf22 w,by decide⟩
theorem b_d:Fld Tryz.prog 48 2 2:=⟨_,_,Tryz.underlying48,rfl,rfl,1,fun w=>Tryz.sizeOf46 w,by decide⟩
theorem e_Y:Fld Tryz.prog 54 0 0:=⟨_,_,Tryz.underlying54,rfl,rfl,1,fun w=>Tryz.sizeOf9 w,by decide⟩
theorem a_C:Fld Tryz.prog 54 1 1:=⟨_,_,Tryz.underlying54,rfl,rfl,1,fun w=>Tryz.sizeOf3 w,by decide⟩
theorem a_K:Fld Tryz.prog 54 2 2:=⟨_,_,Tryz.underlying54,rfl,rfl,1,fun w=>Tryz.sizeOf3 w,by decide⟩
theorem c_D:Fld Tryz.prog 54 3 3:=⟨_,_,Tryz.underlying54,rfl,rfl,1,fun w=>Tryz.sizeOf4 w,by decide⟩
theorem a_W:Fld Tryz.prog 54 4 4:=⟨_,_,Tryz.underlying54,rfl,rfl,1,fun w=>Tryz.sizeOf22 w,by decide⟩
theorem c_8:Fld Tryz.prog 54 5 5:=⟨_,_,Tryz.underlying54,rfl,rfl,1,fun w=>Tryz.sizeOf51 w,by decide⟩
theorem b_1:Fld Tryz.prog 54 6 6:=⟨_,_,Tryz.underlying54,rfl,rfl,1,fun w=>Tryz.sizeOf52 w,by decide⟩
theorem N_:Fld Tryz.prog 54 7 7:=⟨_,_,Tryz.underlying54,rfl,rfl,1,fun w=>Tryz.sizeOf52 w,by decide⟩
abbrev z_22:=@Tryz.sizeOf22
abbrev H_:=@Tryz.sizeOf235
abbrev z_24:=@Tryz.sizeOf24
abbrev s_:=@Tryz.sizeOf26
abbrev z_3:=@Tryz.sizeOf3
abbrev a_L:=@Tryz.sizeOf33
abbrev z_4:=@Tryz.sizeOf4
abbrev e_i:=@Tryz.sizeOf46
abbrev i_:=@Tryz.sizeOf48
abbrev z_5:=@Tryz.sizeOf5
abbrev e_j:=@Tryz.sizeOf51
abbrev e_k:=@Tryz.sizeOf52
abbrev o_:=@Tryz.sizeOf54
abbrev z_9:=@Tryz.sizeOf9
abbrev n_:=@Tryz.underlying22
abbrev d_k:=@Tryz.underlying223
abbrev d_226:=@Tryz.underlying226
abbrev d_228:=@Tryz.underlying228
abbrev a_7:=@Tryz.underlying24
abbrev d_3:=@Tryz.underlying3
abbrev e_Z:=@Tryz.underlying36
abbrev d_4:=@Tryz.underlying4
abbrev c_W:=@Tryz.underlying46
abbrev d_5:=@Tryz.underlying5
abbrev a_j:=@Tryz.underlying51
abbrev w_:=@Tryz.underlying52
abbrev d_9:=@Tryz.underlying9
theorem o_9 (w:World):(zeroValue 226).run Tryz.prog w = .ok (.pointer none) w:=Tryz.zeroValue226 w
theorem b_u (w:World):(zeroValue 235).run Tryz.prog w = .ok (.agg #[(.int .i64 0),(.int .i64 0)]) w:=Tryz.zeroValue235 w
theorem f_X (w:World):(zeroValue 26).run Tryz.prog w = .ok (.agg #[(.slice none 0 0)]) w:=Tryz.zeroValue26 w
theorem zero_3 (w:World):(zeroValue 3).run Tryz.prog w = .ok (.int .i64 0) w:=Tryz.zeroValue3 w
theorem d_l (w:World):(zeroValue 33).run Tryz.prog w = .ok (.agg #[(Str.v ⟨[]⟩),.int .i64 0,.int .i64 0,(.int .i64 0)]) w:=Tryz.zeroValue33 w
theorem zero_4 (w:World):(zeroValue 4).run Tryz.prog w = .ok (.bool false) w:=Tryz.zeroValue4 w
theorem a_d (w:World):(zeroValue 48).run Tryz.prog w = .ok (.agg #[(.int .i64 0),.slice none 0 0,(.slice none 0 0)]) w:=Tryz.zeroValue48 w
theorem k_Z (w:World):(zeroValue 51).run Tryz.prog w = .ok (.slice none 0 0) w:=Tryz.zeroValue51 w
theorem b_E (w:World):(zeroValue 54).run Tryz.prog w = .ok (.agg #[(Str.v ⟨[]⟩),.int .i64 0,.int .i64 0,.bool false,.slice none 0 0,.slice none 0 0,.slice none 0 0,(.slice none 0 0)]) w:=Tryz.zeroValue54 w
end Go.Vw
