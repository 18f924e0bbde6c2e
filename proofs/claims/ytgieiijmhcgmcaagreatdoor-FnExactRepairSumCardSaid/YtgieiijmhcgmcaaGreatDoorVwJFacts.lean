
import Derived.Test.YtgieiijmhcgmcaaGreatDoorVmA
import Derived.Test.YtgieiijmhcgmcaaGreatDoorProg
set_option linter.unusedVariables false
namespace Go.Vw
open Go.RowKit Dat Go.Proofs
theorem mo:Tryz.prog.follows .mixedOrders=true:=by kernel_rfl
abbrev g_116:=@Tryz.isAgg116
abbrev g_22:=@Tryz.isAgg22
abbrev g_24:=@Tryz.isAgg24
abbrev T_:=@Tryz.isAgg25
abbrev a_c:=@Tryz.isAgg29
abbrev g_3:=@Tryz.isAgg3
abbrev D_:=@Tryz.isAgg31
abbrev g_4:=@Tryz.isAgg4
abbrev g_46:=@Tryz.isAgg46
abbrev g_5:=@Tryz.isAgg5
abbrev a_B:=@Tryz.isAgg54
abbrev w_:=@Tryz.isAgg55
abbrev g_57:=@Tryz.isAgg57
abbrev g_58:=@Tryz.isAgg58
abbrev z_:=@Tryz.isAgg60
abbrev G_:=@Tryz.isAgg63
abbrev g_75:=@Tryz.isAgg75
abbrev a_3:=@Tryz.isAgg85
abbrev g_9:=@Tryz.isAgg9
theorem n_k:c_e Tryz.prog 111 [(.slice none 0 0),(.slice none 0 0)] [(0,1),(1,1)]:=⟨fun w=>Tryz.zeroValue111 w,_,Tryz.underlying111,fun w=>by simp [Tryz.sizeOf25,Tryz.sizeOf31]⟩
theorem n_l:c_e Tryz.prog 120 [(.int .i64 0),(.int .i64 0)] [(0,1),(1,1)]:=⟨fun w=>Tryz.zeroValue120 w,_,Tryz.underlying120,fun w=>by simp [Tryz.sizeOf3]⟩
theorem n_m:c_e Tryz.prog 46 [(.int .i64 0),.int .i64 0,Str.v ⟨[]⟩,(.int .i64 0)] [(0,1),(1,1),(2,1),(3,1)]:=⟨fun w=>Tryz.zeroValue46 w,_,Tryz.underlying46,fun w=>by simp [Tryz.sizeOf3,Tryz.sizeOf9]⟩
theorem U_:c_e Tryz.prog 60 [(.int .i64 0),.slice none 0 0,(.slice none 0 0)] [(0,1),(1,1),(2,1)]:=⟨fun w=>Tryz.zeroValue60 w,_,Tryz.underlying60,fun w=>by simp [Tryz.sizeOf25,Tryz.sizeOf3,Tryz.sizeOf58]⟩
theorem n_n:c_e Tryz.prog 68 [(.slice none 0 0),.slice none 0 0,Str.v ⟨[]⟩,(.int .i64 0)] [(0,1),(1,1),(2,1),(3,1)]:=⟨fun w=>Tryz.zeroValue68 w,_,Tryz.underlying68,fun w=>by simp [Tryz.sizeOf25,Tryz.sizeOf3,Tryz.sizeOf31,Tryz.sizeOf9]⟩
theorem n_o:c_e Tryz.prog 74 [(.slice none 0 0),.slice none 0 0,.int .i64 0,(.int .i64 0)] [(0,1),(1,1),(2,1),(3,1)]:=⟨fun w=>Tryz.zeroValue74 w,_,Tryz.underlying74,fun w=>by simp [Tryz.sizeOf25,Tryz.sizeOf3,Tryz.sizeOf31]⟩
theorem b_v:c_e Tryz.prog 85 [(.int .i64 0),(.int .i64 0)] [(0,1),(1,1)]:=⟨fun w=>Tryz.zeroValue85 w,_,Tryz.underlying85,fun w=>by simp [Tryz.sizeOf3]⟩
theorem n_p:c_e Tryz.prog 99 [(.slice none 0 0),.slice none 0 0,(.int .i64 0)] [(0,1),(1,1),(2,1)]:=⟨fun w=>Tryz.zeroValue99 w,_,Tryz.underlying99,fun w=>by simp [Tryz.sizeOf25,Tryz.sizeOf3,Tryz.sizeOf31]⟩
theorem a_C:El Tryz.prog 25 5 1 1 (.int .u8 0):=⟨Tryz.underlying25,by kernel_rfl,rfl,by decide,by decide⟩
theorem el_29:El Tryz.prog 29 63 8 136 (.agg #[(Str.v ⟨[]⟩),.int .i64 0,.int .i64 0,.bool false,.slice none 0 0,.slice none 0 0,.slice none 0 0,(.slice none 0 0)]):=⟨Tryz.underlying29,by kernel_rfl,rfl,by decide,by decide⟩
theorem c_f:El Tryz.prog 54 9 1 16 (Str.v ⟨[]⟩):=⟨Tryz.underlying54,by kernel_rfl,rfl,by decide,by decide⟩
theorem i_c:El Tryz.prog 55 3 1 8 (.int .i64 0):=⟨Tryz.underlying55,by kernel_rfl,rfl,by decide,by decide⟩
theorem g_w:El Tryz.prog 58 60 3 56 (.agg #[(.int .i64 0),.slice none 0 0,(.slice none 0 0)]):=⟨Tryz.underlying58,by kernel_rfl,rfl,by decide,by decide⟩
theorem eqa_85:EqA Tryz.prog 85 (fun x:B_=>Value.agg #[vI x.at_,vI x.code]):=⟨fun x y=>⟨_,_,_,rfl,rfl,Tryz.underlying85,(show decide (x=y)=((x.at_==y.at_) && ((x.code==y.code) && true)) from Bool.eq_iff_iff.2 (by cases x;cases y;simp [Str.beq_dec])) ▸ (.cons rfl Tryz.isAgg3 rfl rfl (.int Tryz.underlying3)<|.cons rfl Tryz.isAgg3 rfl rfl (.int Tryz.underlying3) .nil)⟩,by kernel_rfl,by kernel_rfl⟩
theorem j_Q:Fld Tryz.prog 111 0 0:=⟨_,_,Tryz.underlying111,rfl,rfl,1,fun w=>Tryz.sizeOf31 w,by decide⟩
theorem e_a:Fld Tryz.prog 111 1 1:=⟨_,_,Tryz.underlying111,rfl,rfl,1,fun w=>Tryz.sizeOf25 w,by decide⟩
theorem n_q:Fld Tryz.prog 120 0 0:=⟨_,_,Tryz.underlying120,rfl,rfl,1,fun w=>Tryz.sizeOf3 w,by decide⟩
theorem n_r:Fld Tryz.prog 120 1 1:=⟨_,_,Tryz.underlying120,rfl,rfl,1,fun w=>Tryz.sizeOf3 w,by decide⟩
theorem j_R:Fld Tryz.prog 24 0 0:=⟨_,_,Tryz.underlying24,rfl,rfl,1,fun w=>Tryz.sizeOf22 w,by decide⟩
theorem a_9:Fld Tryz.prog 31 0 0:=⟨_,_,Tryz.underlying31,rfl,rfl,1,fun w=>Tryz.sizeOf29 w,by decide⟩
theorem f_46_0:Fld Tryz.prog 46 0 0:=⟨_,_,Tryz.underlying46,rfl,rfl,1,fun w=>Tryz.sizeOf3 w,by decide⟩
theorem j_S:Fld Tryz.prog 46 1 1:=⟨_,_,Tryz.underlying46,rfl,rfl,1,fun w=>Tryz.sizeOf3 w,by decide⟩
theorem j_T:Fld Tryz.prog 46 2 2:=⟨_,_,Tryz.underlying46,rfl,rfl,1,fun w=>Tryz.sizeOf9 w,by decide⟩
theorem j_U:Fld Tryz.prog 46 3 3:=⟨_,_,Tryz.underlying46,rfl,rfl,1,fun w=>Tryz.sizeOf3 w,by decide⟩
theorem j_V:Fld Tryz.prog 57 0 0:=⟨_,_,Tryz.underlying57,rfl,rfl,1,fun w=>Tryz.sizeOf9 w,by decide⟩
theorem f_57_1:Fld Tryz.prog 57 1 1:=⟨_,_,Tryz.underlying57,rfl,rfl,1,fun w=>Tryz.sizeOf3 w,by decide⟩
theorem f_57_2:Fld Tryz.prog 57 2 2:=⟨_,_,Tryz.underlying57,rfl,rfl,1,fun w=>Tryz.sizeOf3 w,by decide⟩
theorem f_57_3:Fld Tryz.prog 57 3 3:=⟨_,_,Tryz.underlying57,rfl,rfl,1,fun w=>Tryz.sizeOf4 w,by decide⟩
theorem j_W:Fld Tryz.prog 57 4 4:=⟨_,_,Tryz.underlying57,rfl,rfl,1,fun w=>Tryz.sizeOf25 w,by decide⟩
theorem j_X:Fld Tryz.prog 57 5 5:=⟨_,_,Tryz.underlying57,rfl,rfl,1,fun w=>Tryz.sizeOf54 w,by decide⟩
theorem j_Y:Fld Tryz.prog 57 6 6:=⟨_,_,Tryz.underlying57,rfl,rfl,1,fun w=>Tryz.sizeOf55 w,by decide⟩
theorem j_Z:Fld Tryz.prog 57 7 7:=⟨_,_,Tryz.underlying57,rfl,rfl,1,fun w=>Tryz.sizeOf55 w,by decide⟩
theorem f_60_0:Fld Tryz.prog 60 0 0:=⟨_,_,Tryz.underlying60,rfl,rfl,1,fun w=>Tryz.sizeOf3 w,by decide⟩
theorem g_x:Fld Tryz.prog 60 2 2:=⟨_,_,Tryz.underlying60,rfl,rfl,1,fun w=>Tryz.sizeOf58 w,by decide⟩
theorem c_g:Fld Tryz.prog 63 0 0:=⟨_,_,Tryz.underlying63,rfl,rfl,1,fun w=>Tryz.sizeOf9 w,by decide⟩
theorem a_s:Fld Tryz.prog 63 1 1:=⟨_,_,Tryz.underlying63,rfl,rfl,1,fun w=>Tryz.sizeOf3 w,by decide⟩
theorem a_z:Fld Tryz.prog 63 2 2:=⟨_,_,Tryz.underlying63,rfl,rfl,1,fun w=>Tryz.sizeOf3 w,by decide⟩
theorem b_D:Fld Tryz.prog 63 3 3:=⟨_,_,Tryz.underlying63,rfl,rfl,1,fun w=>Tryz.sizeOf4 w,by decide⟩
theorem a_I:Fld Tryz.prog 63 4 4:=⟨_,_,Tryz.underlying63,rfl,rfl,1,fun w=>Tryz.sizeOf25 w,by decide⟩
theorem b_m:Fld Tryz.prog 63 5 5:=⟨_,_,Tryz.underlying63,rfl,rfl,1,fun w=>Tryz.sizeOf54 w,by decide⟩
theorem a_D:Fld Tryz.prog 63 6 6:=⟨_,_,Tryz.underlying63,rfl,rfl,1,fun w=>Tryz.sizeOf55 w,by decide⟩
theorem M_:Fld Tryz.prog 63 7 7:=⟨_,_,Tryz.underlying63,rfl,rfl,1,fun w=>Tryz.sizeOf55 w,by decide⟩
theorem e_X:Fld Tryz.prog 68 0 0:=⟨_,_,Tryz.underlying68,rfl,rfl,1,fun w=>Tryz.sizeOf31 w,by decide⟩
theorem e_Y:Fld Tryz.prog 68 1 1:=⟨_,_,Tryz.underlying68,rfl,rfl,1,fun w=>Tryz.sizeOf25 w,by decide⟩
theorem k_0:Fld Tryz.prog 68 2 2:=⟨_,_,Tryz.underlying68,rfl,rfl,1,fun w=>Tryz.sizeOf9 w,by decide⟩
theorem k_1:Fld Tryz.prog 68 3 3:=⟨_,_,Tryz.underlying68,rfl,rfl,1,fun w=>Tryz.sizeOf3 w,by decide⟩
theorem i_d:Fld Tryz.prog 74 0 0:=⟨_,_,Tryz.underlying74,rfl,rfl,1,fun w=>Tryz.sizeOf31 w,by decide⟩
theorem g_y:Fld Tryz.prog 74 1 1:=⟨_,_,Tryz.underlying74,rfl,rfl,1,fun w=>Tryz.sizeOf25 w,by decide⟩
theorem e_Z:Fld Tryz.prog 74 2 2:=⟨_,_,Tryz.underlying74,rfl,rfl,1,fun w=>Tryz.sizeOf3 w,by decide⟩
theorem c_A:Fld Tryz.prog 74 3 3:=⟨_,_,Tryz.underlying74,rfl,rfl,1,fun w=>Tryz.sizeOf3 w,by decide⟩
theorem c_1:Fld Tryz.prog 85 0 0:=⟨_,_,Tryz.underlying85,rfl,rfl,1,fun w=>Tryz.sizeOf3 w,by decide⟩
theorem c_h:Fld Tryz.prog 85 1 1:=⟨_,_,Tryz.underlying85,rfl,rfl,1,fun w=>Tryz.sizeOf3 w,by decide⟩
theorem k_2:Fld Tryz.prog 99 0 0:=⟨_,_,Tryz.underlying99,rfl,rfl,1,fun w=>Tryz.sizeOf31 w,by decide⟩
theorem c_B:Fld Tryz.prog 99 1 1:=⟨_,_,Tryz.underlying99,rfl,rfl,1,fun w=>Tryz.sizeOf25 w,by decide⟩
theorem g_z:Fld Tryz.prog 99 2 2:=⟨_,_,Tryz.underlying99,rfl,rfl,1,fun w=>Tryz.sizeOf3 w,by decide⟩
abbrev z_24:=@Tryz.sizeOf24
abbrev z_25:=@Tryz.sizeOf25
abbrev z_29:=@Tryz.sizeOf29
abbrev z_3:=@Tryz.sizeOf3
abbrev C_:=@Tryz.sizeOf31
abbrev z_4:=@Tryz.sizeOf4
abbrev z_46:=@Tryz.sizeOf46
abbrev z_5:=@Tryz.sizeOf5
abbrev d_E:=@Tryz.sizeOf54
abbrev z_55:=@Tryz.sizeOf55
abbrev z_57:=@Tryz.sizeOf57
abbrev z_58:=@Tryz.sizeOf58
abbrev i_:=@Tryz.sizeOf60
abbrev n_:=@Tryz.sizeOf63
abbrev y_:=@Tryz.sizeOf85
abbrev z_9:=@Tryz.sizeOf9
abbrev c_C:=@Tryz.underlying113
abbrev d_116:=@Tryz.underlying116
abbrev d_118:=@Tryz.underlying118
abbrev d_2:=@Tryz.underlying22
abbrev l_:=@Tryz.underlying25
abbrev Q_:=@Tryz.underlying29
abbrev d_3:=@Tryz.underlying3
abbrev d_4:=@Tryz.underlying4
abbrev d_5:=@Tryz.underlying5
abbrev a_0:=@Tryz.underlying54
abbrev r_:=@Tryz.underlying55
abbrev d_9:=@Tryz.underlying9
theorem n_s (w:World):(zeroValue 116).run Tryz.prog w = .ok (.pointer none) w:=Tryz.zeroValue116 w
theorem i_e (w:World):(zeroValue 3).run Tryz.prog w = .ok (.int .i64 0) w:=Tryz.zeroValue3 w
theorem i_f (w:World):(zeroValue 31).run Tryz.prog w = .ok (.agg #[(.slice none 0 0)]) w:=Tryz.zeroValue31 w
theorem zero_4 (w:World):(zeroValue 4).run Tryz.prog w = .ok (.bool false) w:=Tryz.zeroValue4 w
theorem i_g (w:World):(zeroValue 46).run Tryz.prog w = .ok (.agg #[(.int .i64 0),.int .i64 0,Str.v ⟨[]⟩,(.int .i64 0)]) w:=Tryz.zeroValue46 w
theorem k_3 (w:World):(zeroValue 54).run Tryz.prog w = .ok (.slice none 0 0) w:=Tryz.zeroValue54 w
theorem a_a (w:World):(zeroValue 60).run Tryz.prog w = .ok (.agg #[(.int .i64 0),.slice none 0 0,(.slice none 0 0)]) w:=Tryz.zeroValue60 w
theorem b_w (w:World):(zeroValue 63).run Tryz.prog w = .ok (.agg #[(Str.v ⟨[]⟩),.int .i64 0,.int .i64 0,.bool false,.slice none 0 0,.slice none 0 0,.slice none 0 0,(.slice none 0 0)]) w:=Tryz.zeroValue63 w
theorem b_4 (w:World):(zeroValue 85).run Tryz.prog w = .ok (.agg #[(.int .i64 0),(.int .i64 0)]) w:=Tryz.zeroValue85 w
end Go.Vw
