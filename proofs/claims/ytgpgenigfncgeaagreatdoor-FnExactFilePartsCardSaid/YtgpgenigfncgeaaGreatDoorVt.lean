
import Derived.Test.YtgpgenigfncgeaaGreatDoorV0
import Derived.Test.YtgpgenigfncgeaaGreatDoorProg
set_option linter.unusedVariables false
namespace Go.Vw
open Go.RowKit Dat Go.Proofs
theorem mo:Tryz.prog.follows .mixedOrders=true:=by kernel_rfl
abbrev a_G:=@Tryz.isAgg105
abbrev H_:=@Tryz.isAgg127
abbrev Q_:=@Tryz.isAgg129
abbrev g_135:=@Tryz.isAgg135
abbrev g_157:=@Tryz.isAgg157
abbrev g_177:=@Tryz.isAgg177
abbrev a_l:=@Tryz.isAgg186
abbrev g_22:=@Tryz.isAgg22
abbrev g_24:=@Tryz.isAgg24
abbrev K_:=@Tryz.isAgg25
abbrev g_27:=@Tryz.isAgg27
abbrev g_29:=@Tryz.isAgg29
abbrev g_3:=@Tryz.isAgg3
abbrev g_31:=@Tryz.isAgg31
abbrev c_f:=@Tryz.isAgg33
abbrev e_G:=@Tryz.isAgg35
abbrev e_f:=@Tryz.isAgg36
abbrev d_K:=@Tryz.isAgg38
abbrev g_4:=@Tryz.isAgg4
abbrev g_5:=@Tryz.isAgg5
abbrev a_u:=@Tryz.isAgg52
abbrev L_:=@Tryz.isAgg54
abbrev e_H:=@Tryz.isAgg56
abbrev f_Z:=@Tryz.isAgg61
abbrev b_p:=@Tryz.isAgg76
abbrev g_89:=@Tryz.isAgg89
abbrev g_9:=@Tryz.isAgg9
abbrev g_91:=@Tryz.isAgg91
abbrev g_0:=@Tryz.isAgg97
abbrev C_:=@Tryz.isAgg99
theorem r_W:c_V Tryz.prog 115 [(.slice none 0 0),.slice none 0 0,(.slice none 0 0)] [(0,1),(1,1),(2,1)]:=⟨λw=>Tryz.zeroValue115 w,_,Tryz.underlying115,λw=>by simp [Tryz.sizeOf25,Tryz.sizeOf31,Tryz.sizeOf54]⟩
theorem l_H:c_V Tryz.prog 141 [] []:=⟨λw=>Tryz.zeroValue141 w,_,Tryz.underlying141,λw=>by simp []⟩
theorem r_X:c_V Tryz.prog 172 [(.slice none 0 0),(.slice none 0 0)] [(0,1),(1,1)]:=⟨λw=>Tryz.zeroValue172 w,_,Tryz.underlying172,λw=>by simp [Tryz.sizeOf25,Tryz.sizeOf54]⟩
theorem r_Y:c_V Tryz.prog 181 [(.int .i64 0),(.int .i64 0)] [(0,1),(1,1)]:=⟨λw=>Tryz.zeroValue181 w,_,Tryz.underlying181,λw=>by simp [Tryz.sizeOf3]⟩
theorem r_Z:c_V Tryz.prog 184 [(.slice none 0 0),.slice none 0 0,(.int .i64 0)] [(0,1),(1,1),(2,1)]:=⟨λw=>Tryz.zeroValue184 w,_,Tryz.underlying184,λw=>by simp [Tryz.sizeOf25,Tryz.sizeOf3,Tryz.sizeOf54]⟩
theorem c_O:c_V Tryz.prog 186 [(.int .i64 0),(.int .i64 0)] [(0,1),(1,1)]:=⟨λw=>Tryz.zeroValue186 w,_,Tryz.underlying186,λw=>by simp [Tryz.sizeOf3]⟩
theorem j_G:c_V Tryz.prog 56 [(Str.v ⟨[]⟩),.int .i64 0,(.slice none 0 0)] [(0,1),(1,1),(2,1)]:=⟨λw=>Tryz.zeroValue56 w,_,Tryz.underlying56,λw=>by simp [Tryz.sizeOf25,Tryz.sizeOf3,Tryz.sizeOf9]⟩
theorem n_C:c_V Tryz.prog 61 [(Str.v ⟨[]⟩),.int .i64 0,.int .i64 0,(.int .i64 0)] [(0,1),(1,1),(2,1),(3,1)]:=⟨λw=>Tryz.zeroValue61 w,_,Tryz.underlying61,λw=>by simp [Tryz.sizeOf3,Tryz.sizeOf9]⟩
theorem d_L:c_V Tryz.prog 76 [(.int .i64 0),Str.v ⟨[]⟩,.int .i64 0,(.slice none 0 0)] [(0,1),(1,1),(2,1),(3,1)]:=⟨λw=>Tryz.zeroValue76 w,_,Tryz.underlying76,λw=>by simp [Tryz.sizeOf25,Tryz.sizeOf3,Tryz.sizeOf9]⟩
theorem a_6:c_V Tryz.prog 99 [(.int .i64 0),.slice none 0 0,(.slice none 0 0)] [(0,1),(1,1),(2,1)]:=⟨λw=>Tryz.zeroValue99 w,_,Tryz.underlying99,λw=>by simp [Tryz.sizeOf25,Tryz.sizeOf3,Tryz.sizeOf97]⟩
theorem b_q:El Tryz.prog 105 9 1 16 (Str.v ⟨[]⟩):=⟨Tryz.underlying105,by kernel_rfl,rfl,by decide,by decide⟩
theorem l_I:El Tryz.prog 127 3 1 8 (.int .i64 0):=⟨Tryz.underlying127,by kernel_rfl,rfl,by decide,by decide⟩
theorem j_H:El Tryz.prog 136 4 1 1 (.bool false):=⟨Tryz.underlying136,by kernel_rfl,rfl,by decide,by decide⟩
theorem M_:El Tryz.prog 25 5 1 1 (.int .u8 0):=⟨Tryz.underlying25,by kernel_rfl,rfl,by decide,by decide⟩
theorem c_g:El Tryz.prog 31 61 4 40 (.agg #[(Str.v ⟨[]⟩),.int .i64 0,.int .i64 0,(.int .i64 0)]):=⟨Tryz.underlying31,by kernel_rfl,rfl,by decide,by decide⟩
theorem el_33:El Tryz.prog 33 54 1 24 (.agg #[(.slice none 0 0)]):=⟨Tryz.underlying33,by kernel_rfl,rfl,by decide,by decide⟩
theorem c_h:El Tryz.prog 47 56 3 48 (.agg #[(Str.v ⟨[]⟩),.int .i64 0,(.slice none 0 0)]):=⟨Tryz.underlying47,by kernel_rfl,rfl,by decide,by decide⟩
theorem el_52:El Tryz.prog 52 129 8 136 (.agg #[(Str.v ⟨[]⟩),.int .i64 0,.int .i64 0,.bool false,.slice none 0 0,.slice none 0 0,.slice none 0 0,(.slice none 0 0)]):=⟨Tryz.underlying52,by kernel_rfl,rfl,by decide,by decide⟩
theorem g_1:El Tryz.prog 72 76 4 56 (.agg #[(.int .i64 0),Str.v ⟨[]⟩,.int .i64 0,(.slice none 0 0)]):=⟨Tryz.underlying72,by kernel_rfl,rfl,by decide,by decide⟩
theorem j_I:El Tryz.prog 97 99 3 56 (.agg #[(.int .i64 0),.slice none 0 0,(.slice none 0 0)]):=⟨Tryz.underlying97,by kernel_rfl,rfl,by decide,by decide⟩
theorem h_o:Fld Tryz.prog 115 0 0:=⟨_,_,Tryz.underlying115,rfl,rfl,1,λw=>Tryz.sizeOf54 w,by decide⟩
theorem s_0:Fld Tryz.prog 115 1 1:=⟨_,_,Tryz.underlying115,rfl,rfl,1,λw=>Tryz.sizeOf25 w,by decide⟩
theorem h_p:Fld Tryz.prog 115 2 2:=⟨_,_,Tryz.underlying115,rfl,rfl,1,λw=>Tryz.sizeOf31 w,by decide⟩
theorem d_M:Fld Tryz.prog 129 0 0:=⟨_,_,Tryz.underlying129,rfl,rfl,1,λw=>Tryz.sizeOf9 w,by decide⟩
theorem a_O:Fld Tryz.prog 129 1 1:=⟨_,_,Tryz.underlying129,rfl,rfl,1,λw=>Tryz.sizeOf3 w,by decide⟩
theorem b_1:Fld Tryz.prog 129 2 2:=⟨_,_,Tryz.underlying129,rfl,rfl,1,λw=>Tryz.sizeOf3 w,by decide⟩
theorem d_j:Fld Tryz.prog 129 3 3:=⟨_,_,Tryz.underlying129,rfl,rfl,1,λw=>Tryz.sizeOf4 w,by decide⟩
theorem b_j:Fld Tryz.prog 129 4 4:=⟨_,_,Tryz.underlying129,rfl,rfl,1,λw=>Tryz.sizeOf25 w,by decide⟩
theorem c_i:Fld Tryz.prog 129 5 5:=⟨_,_,Tryz.underlying129,rfl,rfl,1,λw=>Tryz.sizeOf105 w,by decide⟩
theorem b_k:Fld Tryz.prog 129 6 6:=⟨_,_,Tryz.underlying129,rfl,rfl,1,λw=>Tryz.sizeOf127 w,by decide⟩
theorem a_1:Fld Tryz.prog 129 7 7:=⟨_,_,Tryz.underlying129,rfl,rfl,1,λw=>Tryz.sizeOf127 w,by decide⟩
theorem n_D:Fld Tryz.prog 157 0 0:=⟨_,_,Tryz.underlying157,rfl,rfl,1,λw=>Tryz.sizeOf9 w,by decide⟩
theorem s_1:Fld Tryz.prog 157 1 1:=⟨_,_,Tryz.underlying157,rfl,rfl,1,λw=>Tryz.sizeOf3 w,by decide⟩
theorem s_2:Fld Tryz.prog 157 2 2:=⟨_,_,Tryz.underlying157,rfl,rfl,1,λw=>Tryz.sizeOf3 w,by decide⟩
theorem s_3:Fld Tryz.prog 157 3 3:=⟨_,_,Tryz.underlying157,rfl,rfl,1,λw=>Tryz.sizeOf4 w,by decide⟩
theorem n_E:Fld Tryz.prog 157 4 4:=⟨_,_,Tryz.underlying157,rfl,rfl,1,λw=>Tryz.sizeOf25 w,by decide⟩
theorem n_F:Fld Tryz.prog 157 5 5:=⟨_,_,Tryz.underlying157,rfl,rfl,1,λw=>Tryz.sizeOf105 w,by decide⟩
theorem n_G:Fld Tryz.prog 157 6 6:=⟨_,_,Tryz.underlying157,rfl,rfl,1,λw=>Tryz.sizeOf127 w,by decide⟩
theorem n_H:Fld Tryz.prog 157 7 7:=⟨_,_,Tryz.underlying157,rfl,rfl,1,λw=>Tryz.sizeOf127 w,by decide⟩
theorem n_I:Fld Tryz.prog 172 0 0:=⟨_,_,Tryz.underlying172,rfl,rfl,1,λw=>Tryz.sizeOf54 w,by decide⟩
theorem g_2:Fld Tryz.prog 172 1 1:=⟨_,_,Tryz.underlying172,rfl,rfl,1,λw=>Tryz.sizeOf25 w,by decide⟩
theorem s_4:Fld Tryz.prog 181 0 0:=⟨_,_,Tryz.underlying181,rfl,rfl,1,λw=>Tryz.sizeOf3 w,by decide⟩
theorem s_5:Fld Tryz.prog 181 1 1:=⟨_,_,Tryz.underlying181,rfl,rfl,1,λw=>Tryz.sizeOf3 w,by decide⟩
theorem n_J:Fld Tryz.prog 184 0 0:=⟨_,_,Tryz.underlying184,rfl,rfl,1,λw=>Tryz.sizeOf54 w,by decide⟩
theorem e_g:Fld Tryz.prog 184 1 1:=⟨_,_,Tryz.underlying184,rfl,rfl,1,λw=>Tryz.sizeOf25 w,by decide⟩
theorem j_J:Fld Tryz.prog 184 2 2:=⟨_,_,Tryz.underlying184,rfl,rfl,1,λw=>Tryz.sizeOf3 w,by decide⟩
theorem d_k:Fld Tryz.prog 186 0 0:=⟨_,_,Tryz.underlying186,rfl,rfl,1,λw=>Tryz.sizeOf3 w,by decide⟩
theorem d_N:Fld Tryz.prog 186 1 1:=⟨_,_,Tryz.underlying186,rfl,rfl,1,λw=>Tryz.sizeOf3 w,by decide⟩
theorem n_K:Fld Tryz.prog 24 0 0:=⟨_,_,Tryz.underlying24,rfl,rfl,1,λw=>Tryz.sizeOf22 w,by decide⟩
theorem n_L:Fld Tryz.prog 27 0 0:=⟨_,_,Tryz.underlying27,rfl,rfl,1,λw=>Tryz.sizeOf25 w,by decide⟩
theorem f_27_1:Fld Tryz.prog 27 1 1:=⟨_,_,Tryz.underlying27,rfl,rfl,1,λw=>Tryz.sizeOf3 w,by decide⟩
theorem n_M:Fld Tryz.prog 29 0 0:=⟨_,_,Tryz.underlying29,rfl,rfl,1,λw=>Tryz.sizeOf24 w,by decide⟩
theorem n_N:Fld Tryz.prog 29 1 1:=⟨_,_,Tryz.underlying29,rfl,rfl,2,λw=>Tryz.sizeOf27 w,by decide⟩
theorem c_5:Fld Tryz.prog 35 0 0:=⟨_,_,Tryz.underlying35,rfl,rfl,1,λw=>Tryz.sizeOf33 w,by decide⟩
theorem c_6:Fld Tryz.prog 36 0 0:=⟨_,_,Tryz.underlying36,rfl,rfl,1,λw=>Tryz.sizeOf25 w,by decide⟩
theorem e_h:Fld Tryz.prog 36 1 1:=⟨_,_,Tryz.underlying36,rfl,rfl,1,λw=>Tryz.sizeOf3 w,by decide⟩
theorem c_P:Fld Tryz.prog 38 0 0:=⟨_,_,Tryz.underlying38,rfl,rfl,1,λw=>Tryz.sizeOf35 w,by decide⟩
theorem c_B:Fld Tryz.prog 38 1 1:=⟨_,_,Tryz.underlying38,rfl,rfl,2,λw=>Tryz.sizeOf36 w,by decide⟩
theorem a_s:Fld Tryz.prog 54 0 0:=⟨_,_,Tryz.underlying54,rfl,rfl,1,λw=>Tryz.sizeOf52 w,by decide⟩
theorem j_K:Fld Tryz.prog 56 0 0:=⟨_,_,Tryz.underlying56,rfl,rfl,1,λw=>Tryz.sizeOf9 w,by decide⟩
theorem n_O:Fld Tryz.prog 56 1 1:=⟨_,_,Tryz.underlying56,rfl,rfl,1,λw=>Tryz.sizeOf3 w,by decide⟩
theorem n_P:Fld Tryz.prog 56 2 2:=⟨_,_,Tryz.underlying56,rfl,rfl,1,λw=>Tryz.sizeOf25 w,by decide⟩
theorem g_6:Fld Tryz.prog 61 0 0:=⟨_,_,Tryz.underlying61,rfl,rfl,1,λw=>Tryz.sizeOf9 w,by decide⟩
theorem j_L:Fld Tryz.prog 61 1 1:=⟨_,_,Tryz.underlying61,rfl,rfl,1,λw=>Tryz.sizeOf3 w,by decide⟩
theorem j_M:Fld Tryz.prog 61 2 2:=⟨_,_,Tryz.underlying61,rfl,rfl,1,λw=>Tryz.sizeOf3 w,by decide⟩
theorem h_q:Fld Tryz.prog 61 3 3:=⟨_,_,Tryz.underlying61,rfl,rfl,1,λw=>Tryz.sizeOf3 w,by decide⟩
theorem c_Q:Fld Tryz.prog 76 0 0:=⟨_,_,Tryz.underlying76,rfl,rfl,1,λw=>Tryz.sizeOf3 w,by decide⟩
theorem d_O:Fld Tryz.prog 76 1 1:=⟨_,_,Tryz.underlying76,rfl,rfl,1,λw=>Tryz.sizeOf9 w,by decide⟩
theorem c_R:Fld Tryz.prog 76 2 2:=⟨_,_,Tryz.underlying76,rfl,rfl,1,λw=>Tryz.sizeOf3 w,by decide⟩
theorem d_P:Fld Tryz.prog 76 3 3:=⟨_,_,Tryz.underlying76,rfl,rfl,1,λw=>Tryz.sizeOf25 w,by decide⟩
theorem n_Q:Fld Tryz.prog 91 0 0:=⟨_,_,Tryz.underlying91,rfl,rfl,1,λw=>Tryz.sizeOf89 w,by decide⟩
theorem l_J:Fld Tryz.prog 99 0 0:=⟨_,_,Tryz.underlying99,rfl,rfl,1,λw=>Tryz.sizeOf3 w,by decide⟩
theorem e_I:Fld Tryz.prog 99 2 2:=⟨_,_,Tryz.underlying99,rfl,rfl,1,λw=>Tryz.sizeOf97 w,by decide⟩
abbrev c_C:=@Tryz.sizeOf105
abbrev z_127:=@Tryz.sizeOf127
abbrev t_:=@Tryz.sizeOf129
abbrev j_N:=@Tryz.sizeOf157
abbrev B_:=@Tryz.sizeOf186
abbrev z_24:=@Tryz.sizeOf24
abbrev z_25:=@Tryz.sizeOf25
abbrev z_27:=@Tryz.sizeOf27
abbrev z_29:=@Tryz.sizeOf29
abbrev z_3:=@Tryz.sizeOf3
abbrev z_31:=@Tryz.sizeOf31
abbrev z_33:=@Tryz.sizeOf33
abbrev d_Q:=@Tryz.sizeOf35
abbrev d_l:=@Tryz.sizeOf36
abbrev c_S:=@Tryz.sizeOf38
abbrev z_4:=@Tryz.sizeOf4
abbrev z_5:=@Tryz.sizeOf5
abbrev z_52:=@Tryz.sizeOf52
abbrev D_:=@Tryz.sizeOf54
abbrev b_4:=@Tryz.sizeOf56
abbrev b_x:=@Tryz.sizeOf61
abbrev a_a:=@Tryz.sizeOf76
abbrev z_9:=@Tryz.sizeOf9
abbrev z_91:=@Tryz.sizeOf91
abbrev z_97:=@Tryz.sizeOf97
abbrev m_:=@Tryz.sizeOf99
abbrev F_:=@Tryz.underlying105
abbrev y_:=@Tryz.underlying127
abbrev b_9:=@Tryz.underlying136
abbrev l_K:=@Tryz.underlying141
abbrev j_O:=@Tryz.underlying151
abbrev e_i:=@Tryz.underlying174
abbrev d_177:=@Tryz.underlying177
abbrev d_179:=@Tryz.underlying179
abbrev e_J:=@Tryz.underlying22
abbrev k_:=@Tryz.underlying25
abbrev d_3:=@Tryz.underlying3
abbrev b_5:=@Tryz.underlying31
abbrev b_r:=@Tryz.underlying33
abbrev d_4:=@Tryz.underlying4
abbrev b_O:=@Tryz.underlying47
abbrev d_5:=@Tryz.underlying5
abbrev a_2:=@Tryz.underlying52
abbrev c_D:=@Tryz.underlying72
abbrev e_K:=@Tryz.underlying89
abbrev d_9:=@Tryz.underlying9
abbrev d_97:=@Tryz.underlying97
theorem j_P (w:World):(zeroValue 105).run Tryz.prog w = .ok (.slice none 0 0) w:=Tryz.zeroValue105 w
theorem c_q (w:World):(zeroValue 129).run Tryz.prog w = .ok (.agg #[(Str.v ⟨[]⟩),.int .i64 0,.int .i64 0,.bool false,.slice none 0 0,.slice none 0 0,.slice none 0 0,(.slice none 0 0)]) w:=Tryz.zeroValue129 w
theorem s_6 (w:World):(zeroValue 177).run Tryz.prog w = .ok (.pointer none) w:=Tryz.zeroValue177 w
theorem b_P (w:World):(zeroValue 186).run Tryz.prog w = .ok (.agg #[(.int .i64 0),(.int .i64 0)]) w:=Tryz.zeroValue186 w
theorem n_R (w:World):(zeroValue 35).run Tryz.prog w = .ok (.agg #[(.slice none 0 0)]) w:=Tryz.zeroValue35 w
theorem n_S (w:World):(zeroValue 36).run Tryz.prog w = .ok (.agg #[(.slice none 0 0),(.int .i64 0)]) w:=Tryz.zeroValue36 w
theorem l_L (w:World):(zeroValue 38).run Tryz.prog w = .ok (.agg #[(.slice none 0 0),.slice none 0 0,(.int .i64 0)]) w:=Tryz.zeroValue38 w
theorem n_T (w:World):(zeroValue 4).run Tryz.prog w = .ok (.bool false) w:=Tryz.zeroValue4 w
theorem l_M (w:World):(zeroValue 54).run Tryz.prog w = .ok (.agg #[(.slice none 0 0)]) w:=Tryz.zeroValue54 w
theorem g_7 (w:World):(zeroValue 56).run Tryz.prog w = .ok (.agg #[(Str.v ⟨[]⟩),.int .i64 0,(.slice none 0 0)]) w:=Tryz.zeroValue56 w
theorem s_7 (w:World):(zeroValue 61).run Tryz.prog w = .ok (.agg #[(Str.v ⟨[]⟩),.int .i64 0,.int .i64 0,(.int .i64 0)]) w:=Tryz.zeroValue61 w
theorem e_j (w:World):(zeroValue 76).run Tryz.prog w = .ok (.agg #[(.int .i64 0),Str.v ⟨[]⟩,.int .i64 0,(.slice none 0 0)]) w:=Tryz.zeroValue76 w
theorem a_q (w:World):(zeroValue 99).run Tryz.prog w = .ok (.agg #[(.int .i64 0),.slice none 0 0,(.slice none 0 0)]) w:=Tryz.zeroValue99 w
end Go.Vw
