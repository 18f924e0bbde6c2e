
import Derived.Test.YtbihpjgldkojoaaGreatDoorVmA
import Derived.Test.YtbihpjgldkojoaaGreatDoorProg
set_option linter.unusedVariables false
namespace Go.Vw
open Go.RowKit Dat Go.Proofs
theorem mo:Tryz.prog.follows .mixedOrders=true:=by kernel_rfl
abbrev g_125:=@Tryz.isAgg125
abbrev U_:=@Tryz.isAgg22
abbrev V_:=@Tryz.isAgg24
abbrev B_:=@Tryz.isAgg26
abbrev g_3:=@Tryz.isAgg3
abbrev b_8:=@Tryz.isAgg37
abbrev C_:=@Tryz.isAgg38
abbrev g_4:=@Tryz.isAgg4
abbrev R_:=@Tryz.isAgg40
abbrev d_i:=@Tryz.isAgg43
abbrev I_:=@Tryz.isAgg45
abbrev g_49:=@Tryz.isAgg49
abbrev g_5:=@Tryz.isAgg5
abbrev g_74:=@Tryz.isAgg74
abbrev g_86:=@Tryz.isAgg86
abbrev g_9:=@Tryz.isAgg9
abbrev a_m:=@Tryz.isAgg91
theorem o_D:b_Y Tryz.prog 109 [(.slice none 0 0),.slice none 0 0,(.int .i64 0)] [(0,1),(1,1),(2,1)]:=⟨λw=>Tryz.zeroValue109 w,_,Tryz.underlying109,λw=>by simp [Tryz.sizeOf22,Tryz.sizeOf26,Tryz.sizeOf3]⟩
theorem o_E:b_Y Tryz.prog 120 [(.slice none 0 0),(.slice none 0 0)] [(0,1),(1,1)]:=⟨λw=>Tryz.zeroValue120 w,_,Tryz.underlying120,λw=>by simp [Tryz.sizeOf22,Tryz.sizeOf26]⟩
theorem o_F:b_Y Tryz.prog 129 [(.int .i64 0),(.int .i64 0)] [(0,1),(1,1)]:=⟨λw=>Tryz.zeroValue129 w,_,Tryz.underlying129,λw=>by simp [Tryz.sizeOf3]⟩
theorem l_9:b_Y Tryz.prog 26 [(.slice none 0 0)] [(0,1)]:=⟨λw=>Tryz.zeroValue26 w,_,Tryz.underlying26,λw=>by simp [Tryz.sizeOf24]⟩
theorem o_G:b_Y Tryz.prog 40 [(Str.v ⟨[]⟩),.int .i64 0,.int .i64 0,.bool false,.slice none 0 0,.slice none 0 0,.slice none 0 0,(.slice none 0 0)] [(0,1),(1,1),(2,1),(3,1),(4,1),(5,1),(6,1),(7,1)]:=⟨λw=>Tryz.zeroValue40 w,_,Tryz.underlying40,λw=>by simp [Tryz.sizeOf22,Tryz.sizeOf3,Tryz.sizeOf37,Tryz.sizeOf38,Tryz.sizeOf4,Tryz.sizeOf9]⟩
theorem a_7:b_Y Tryz.prog 45 [(.int .i64 0),.slice none 0 0,(.slice none 0 0)] [(0,1),(1,1),(2,1)]:=⟨λw=>Tryz.zeroValue45 w,_,Tryz.underlying45,λw=>by simp [Tryz.sizeOf22,Tryz.sizeOf3,Tryz.sizeOf43]⟩
theorem o_H:b_Y Tryz.prog 49 [(.int .i64 0),.int .i64 0,Str.v ⟨[]⟩,(.int .i64 0)] [(0,1),(1,1),(2,1),(3,1)]:=⟨λw=>Tryz.zeroValue49 w,_,Tryz.underlying49,λw=>by simp [Tryz.sizeOf3,Tryz.sizeOf9]⟩
theorem o_I:b_Y Tryz.prog 60 [(.slice none 0 0),.int .i64 0,(.int .i64 0)] [(0,1),(1,1),(2,1)]:=⟨λw=>Tryz.zeroValue60 w,_,Tryz.underlying60,λw=>by simp [Tryz.sizeOf22,Tryz.sizeOf3]⟩
theorem l_a:b_Y Tryz.prog 74 [(.int .i64 0),.int .i64 0,(.int .i64 0)] [(0,1),(1,1),(2,1)]:=⟨λw=>Tryz.zeroValue74 w,_,Tryz.underlying74,λw=>by simp [Tryz.sizeOf3]⟩
theorem o_J:b_Y Tryz.prog 79 [(.slice none 0 0),.slice none 0 0,Str.v ⟨[]⟩,(.int .i64 0)] [(0,1),(1,1),(2,1),(3,1)]:=⟨λw=>Tryz.zeroValue79 w,_,Tryz.underlying79,λw=>by simp [Tryz.sizeOf22,Tryz.sizeOf26,Tryz.sizeOf3,Tryz.sizeOf9]⟩
theorem o_K:b_Y Tryz.prog 85 [(.slice none 0 0),.slice none 0 0,.int .i64 0,(.int .i64 0)] [(0,1),(1,1),(2,1),(3,1)]:=⟨λw=>Tryz.zeroValue85 w,_,Tryz.underlying85,λw=>by simp [Tryz.sizeOf22,Tryz.sizeOf26,Tryz.sizeOf3]⟩
theorem c_1:b_Y Tryz.prog 91 [(.int .i64 0),(.int .i64 0)] [(0,1),(1,1)]:=⟨λw=>Tryz.zeroValue91 w,_,Tryz.underlying91,λw=>by simp [Tryz.sizeOf3]⟩
theorem H_:El Tryz.prog 22 5 1 1 (.int .u8 0):=⟨Tryz.underlying22,by kernel_rfl,rfl,by decide,by decide⟩
theorem f_9:El Tryz.prog 24 40 8 136 (.agg #[(Str.v ⟨[]⟩),.int .i64 0,.int .i64 0,.bool false,.slice none 0 0,.slice none 0 0,.slice none 0 0,(.slice none 0 0)]):=⟨Tryz.underlying24,by kernel_rfl,rfl,by decide,by decide⟩
theorem b_9:El Tryz.prog 37 9 1 16 (Str.v ⟨[]⟩):=⟨Tryz.underlying37,by kernel_rfl,rfl,by decide,by decide⟩
theorem a_v:El Tryz.prog 38 3 1 8 (.int .i64 0):=⟨Tryz.underlying38,by kernel_rfl,rfl,by decide,by decide⟩
theorem c_A:El Tryz.prog 43 45 3 56 (.agg #[(.int .i64 0),.slice none 0 0,(.slice none 0 0)]):=⟨Tryz.underlying43,by kernel_rfl,rfl,by decide,by decide⟩
theorem eqa_91:EqA Tryz.prog 91 (λx:P_=>Value.agg #[vI x.at_,vI x.code]):=⟨λx y=>⟨_,_,_,rfl,rfl,Tryz.underlying91,(show decide (x=y)=((x.at_==y.at_) && ((x.code==y.code) && true)) from Bool.eq_iff_iff.2 (by cases x;cases y;simp [Str.beq_dec])) ▸ (.cons rfl Tryz.isAgg3 rfl rfl (.int Tryz.underlying3)<|.cons rfl Tryz.isAgg3 rfl rfl (.int Tryz.underlying3) .nil)⟩,by kernel_rfl,by kernel_rfl⟩
theorem l_b:Fld Tryz.prog 109 0 0:=⟨_,_,Tryz.underlying109,rfl,rfl,1,λw=>Tryz.sizeOf26 w,by decide⟩
theorem d_j:Fld Tryz.prog 109 1 1:=⟨_,_,Tryz.underlying109,rfl,rfl,1,λw=>Tryz.sizeOf22 w,by decide⟩
theorem i_d:Fld Tryz.prog 109 2 2:=⟨_,_,Tryz.underlying109,rfl,rfl,1,λw=>Tryz.sizeOf3 w,by decide⟩
theorem l_c:Fld Tryz.prog 120 0 0:=⟨_,_,Tryz.underlying120,rfl,rfl,1,λw=>Tryz.sizeOf26 w,by decide⟩
theorem f_a:Fld Tryz.prog 120 1 1:=⟨_,_,Tryz.underlying120,rfl,rfl,1,λw=>Tryz.sizeOf22 w,by decide⟩
theorem o_L:Fld Tryz.prog 129 0 0:=⟨_,_,Tryz.underlying129,rfl,rfl,1,λw=>Tryz.sizeOf3 w,by decide⟩
theorem o_M:Fld Tryz.prog 129 1 1:=⟨_,_,Tryz.underlying129,rfl,rfl,1,λw=>Tryz.sizeOf3 w,by decide⟩
theorem T_:Fld Tryz.prog 26 0 0:=⟨_,_,Tryz.underlying26,rfl,rfl,1,λw=>Tryz.sizeOf24 w,by decide⟩
theorem d_Q:Fld Tryz.prog 40 0 0:=⟨_,_,Tryz.underlying40,rfl,rfl,1,λw=>Tryz.sizeOf9 w,by decide⟩
theorem a_V:Fld Tryz.prog 40 1 1:=⟨_,_,Tryz.underlying40,rfl,rfl,1,λw=>Tryz.sizeOf3 w,by decide⟩
theorem a_W:Fld Tryz.prog 40 2 2:=⟨_,_,Tryz.underlying40,rfl,rfl,1,λw=>Tryz.sizeOf3 w,by decide⟩
theorem c_2:Fld Tryz.prog 40 3 3:=⟨_,_,Tryz.underlying40,rfl,rfl,1,λw=>Tryz.sizeOf4 w,by decide⟩
theorem a_N:Fld Tryz.prog 40 4 4:=⟨_,_,Tryz.underlying40,rfl,rfl,1,λw=>Tryz.sizeOf22 w,by decide⟩
theorem b_x:Fld Tryz.prog 40 5 5:=⟨_,_,Tryz.underlying40,rfl,rfl,1,λw=>Tryz.sizeOf37 w,by decide⟩
theorem a_O:Fld Tryz.prog 40 6 6:=⟨_,_,Tryz.underlying40,rfl,rfl,1,λw=>Tryz.sizeOf38 w,by decide⟩
theorem M_:Fld Tryz.prog 40 7 7:=⟨_,_,Tryz.underlying40,rfl,rfl,1,λw=>Tryz.sizeOf38 w,by decide⟩
theorem f_b:Fld Tryz.prog 45 0 0:=⟨_,_,Tryz.underlying45,rfl,rfl,1,λw=>Tryz.sizeOf3 w,by decide⟩
theorem c_n:Fld Tryz.prog 45 1 1:=⟨_,_,Tryz.underlying45,rfl,rfl,1,λw=>Tryz.sizeOf22 w,by decide⟩
theorem b_L:Fld Tryz.prog 45 2 2:=⟨_,_,Tryz.underlying45,rfl,rfl,1,λw=>Tryz.sizeOf43 w,by decide⟩
theorem f_49_0:Fld Tryz.prog 49 0 0:=⟨_,_,Tryz.underlying49,rfl,rfl,1,λw=>Tryz.sizeOf3 w,by decide⟩
theorem l_d:Fld Tryz.prog 49 1 1:=⟨_,_,Tryz.underlying49,rfl,rfl,1,λw=>Tryz.sizeOf3 w,by decide⟩
theorem l_e:Fld Tryz.prog 49 2 2:=⟨_,_,Tryz.underlying49,rfl,rfl,1,λw=>Tryz.sizeOf9 w,by decide⟩
theorem l_f:Fld Tryz.prog 49 3 3:=⟨_,_,Tryz.underlying49,rfl,rfl,1,λw=>Tryz.sizeOf3 w,by decide⟩
theorem l_g:Fld Tryz.prog 60 0 0:=⟨_,_,Tryz.underlying60,rfl,rfl,1,λw=>Tryz.sizeOf22 w,by decide⟩
theorem i_e:Fld Tryz.prog 60 1 1:=⟨_,_,Tryz.underlying60,rfl,rfl,1,λw=>Tryz.sizeOf3 w,by decide⟩
theorem i_f:Fld Tryz.prog 60 2 2:=⟨_,_,Tryz.underlying60,rfl,rfl,1,λw=>Tryz.sizeOf3 w,by decide⟩
theorem g_i:Fld Tryz.prog 74 0 0:=⟨_,_,Tryz.underlying74,rfl,rfl,1,λw=>Tryz.sizeOf3 w,by decide⟩
theorem d_k:Fld Tryz.prog 74 1 1:=⟨_,_,Tryz.underlying74,rfl,rfl,1,λw=>Tryz.sizeOf3 w,by decide⟩
theorem f_c:Fld Tryz.prog 74 2 2:=⟨_,_,Tryz.underlying74,rfl,rfl,1,λw=>Tryz.sizeOf3 w,by decide⟩
theorem g_j:Fld Tryz.prog 79 0 0:=⟨_,_,Tryz.underlying79,rfl,rfl,1,λw=>Tryz.sizeOf26 w,by decide⟩
theorem g_k:Fld Tryz.prog 79 1 1:=⟨_,_,Tryz.underlying79,rfl,rfl,1,λw=>Tryz.sizeOf22 w,by decide⟩
theorem l_h:Fld Tryz.prog 79 2 2:=⟨_,_,Tryz.underlying79,rfl,rfl,1,λw=>Tryz.sizeOf9 w,by decide⟩
theorem l_i:Fld Tryz.prog 79 3 3:=⟨_,_,Tryz.underlying79,rfl,rfl,1,λw=>Tryz.sizeOf3 w,by decide⟩
theorem j_p:Fld Tryz.prog 85 0 0:=⟨_,_,Tryz.underlying85,rfl,rfl,1,λw=>Tryz.sizeOf26 w,by decide⟩
theorem i_g:Fld Tryz.prog 85 1 1:=⟨_,_,Tryz.underlying85,rfl,rfl,1,λw=>Tryz.sizeOf22 w,by decide⟩
theorem g_l:Fld Tryz.prog 85 2 2:=⟨_,_,Tryz.underlying85,rfl,rfl,1,λw=>Tryz.sizeOf3 w,by decide⟩
theorem d_l:Fld Tryz.prog 85 3 3:=⟨_,_,Tryz.underlying85,rfl,rfl,1,λw=>Tryz.sizeOf3 w,by decide⟩
theorem c_B:Fld Tryz.prog 91 0 0:=⟨_,_,Tryz.underlying91,rfl,rfl,1,λw=>Tryz.sizeOf3 w,by decide⟩
theorem c_U:Fld Tryz.prog 91 1 1:=⟨_,_,Tryz.underlying91,rfl,rfl,1,λw=>Tryz.sizeOf3 w,by decide⟩
abbrev d_R:=@Tryz.sizeOf22
abbrev z_24:=@Tryz.sizeOf24
abbrev w_:=@Tryz.sizeOf26
abbrev z_3:=@Tryz.sizeOf3
abbrev c_C:=@Tryz.sizeOf37
abbrev c_3:=@Tryz.sizeOf38
abbrev z_4:=@Tryz.sizeOf4
abbrev t_:=@Tryz.sizeOf40
abbrev e_r:=@Tryz.sizeOf43
abbrev n_:=@Tryz.sizeOf45
abbrev z_49:=@Tryz.sizeOf49
abbrev z_5:=@Tryz.sizeOf5
abbrev f_d:=@Tryz.sizeOf74
abbrev z_9:=@Tryz.sizeOf9
abbrev K_:=@Tryz.sizeOf91
abbrev d_m:=@Tryz.underlying122
abbrev d_125:=@Tryz.underlying125
abbrev d_127:=@Tryz.underlying127
abbrev s_:=@Tryz.underlying22
abbrev N_:=@Tryz.underlying24
abbrev d_3:=@Tryz.underlying3
abbrev a_X:=@Tryz.underlying37
abbrev A_:=@Tryz.underlying38
abbrev d_4:=@Tryz.underlying4
abbrev d_43:=@Tryz.underlying43
abbrev d_5:=@Tryz.underlying5
abbrev d_9:=@Tryz.underlying9
theorem o_N (w:World):(zeroValue 125).run Tryz.prog w = .ok (.pointer none) w:=Tryz.zeroValue125 w
theorem c_8 (w:World):(zeroValue 26).run Tryz.prog w = .ok (.agg #[(.slice none 0 0)]) w:=Tryz.zeroValue26 w
theorem i_h (w:World):(zeroValue 3).run Tryz.prog w = .ok (.int .i64 0) w:=Tryz.zeroValue3 w
theorem l_j (w:World):(zeroValue 37).run Tryz.prog w = .ok (.slice none 0 0) w:=Tryz.zeroValue37 w
theorem zero_4 (w:World):(zeroValue 4).run Tryz.prog w = .ok (.bool false) w:=Tryz.zeroValue4 w
theorem b_M (w:World):(zeroValue 40).run Tryz.prog w = .ok (.agg #[(Str.v ⟨[]⟩),.int .i64 0,.int .i64 0,.bool false,.slice none 0 0,.slice none 0 0,.slice none 0 0,(.slice none 0 0)]) w:=Tryz.zeroValue40 w
theorem a_q (w:World):(zeroValue 45).run Tryz.prog w = .ok (.agg #[(.int .i64 0),.slice none 0 0,(.slice none 0 0)]) w:=Tryz.zeroValue45 w
theorem j_q (w:World):(zeroValue 49).run Tryz.prog w = .ok (.agg #[(.int .i64 0),.int .i64 0,Str.v ⟨[]⟩,(.int .i64 0)]) w:=Tryz.zeroValue49 w
theorem l_k (w:World):(zeroValue 74).run Tryz.prog w = .ok (.agg #[(.int .i64 0),.int .i64 0,(.int .i64 0)]) w:=Tryz.zeroValue74 w
theorem b_y (w:World):(zeroValue 91).run Tryz.prog w = .ok (.agg #[(.int .i64 0),(.int .i64 0)]) w:=Tryz.zeroValue91 w
end Go.Vw
