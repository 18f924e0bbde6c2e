
import Derived.Test.YtdgimlkkidpmmaaGreatDoorV0
import Derived.Test.YtdgimlkkidpmmaaGreatDoorProg
set_option linter.unusedVariables false
namespace Go.Vw
open Go.RowKit Dat Go.Proofs
theorem mo:Tryz.prog.follows .mixedOrders=true:=by kernel_rfl
abbrev I_:=@Tryz.isAgg100
abbrev g_146:=@Tryz.isAgg146
abbrev y_:=@Tryz.isAgg22
abbrev b_b:=@Tryz.isAgg24
abbrev c_w:=@Tryz.isAgg26
abbrev a_w:=@Tryz.isAgg28
abbrev g_3:=@Tryz.isAgg3
abbrev a_m:=@Tryz.isAgg30
abbrev c_7:=@Tryz.isAgg39
abbrev g_4:=@Tryz.isAgg4
abbrev g_5:=@Tryz.isAgg5
abbrev b_i:=@Tryz.isAgg56
abbrev K_:=@Tryz.isAgg59
abbrev v_:=@Tryz.isAgg61
abbrev f_S:=@Tryz.isAgg66
abbrev g_9:=@Tryz.isAgg9
abbrev b_o:=@Tryz.isAgg90
abbrev x_:=@Tryz.isAgg92
abbrev B_:=@Tryz.isAgg98
theorem n_T:c_f Tryz.prog 100 [(Str.v ⟨[]⟩),.int .i64 0,.int .i64 0,.bool false,.slice none 0 0,.slice none 0 0,.slice none 0 0,(.slice none 0 0)] [(0,1),(1,1),(2,1),(3,1),(4,1),(5,1),(6,1),(7,1)]:=⟨λw=>Tryz.zeroValue100 w,_,Tryz.underlying100,λw=>by simp [Tryz.sizeOf22,Tryz.sizeOf3,Tryz.sizeOf39,Tryz.sizeOf4,Tryz.sizeOf9,Tryz.sizeOf98]⟩
theorem r_u:c_f Tryz.prog 141 [(.slice none 0 0),(.slice none 0 0)] [(0,1),(1,1)]:=⟨λw=>Tryz.zeroValue141 w,_,Tryz.underlying141,λw=>by simp [Tryz.sizeOf22,Tryz.sizeOf61]⟩
theorem r_v:c_f Tryz.prog 150 [(.int .i64 0),(.int .i64 0)] [(0,1),(1,1)]:=⟨λw=>Tryz.zeroValue150 w,_,Tryz.underlying150,λw=>by simp [Tryz.sizeOf3]⟩
theorem l_h:c_f Tryz.prog 26 [(.slice none 0 0)] [(0,1)]:=⟨λw=>Tryz.zeroValue26 w,_,Tryz.underlying26,λw=>by simp [Tryz.sizeOf24]⟩
theorem l_i:c_f Tryz.prog 28 [(.slice none 0 0),(.int .i64 0)] [(0,1),(1,1)]:=⟨λw=>Tryz.zeroValue28 w,_,Tryz.underlying28,λw=>by simp [Tryz.sizeOf22,Tryz.sizeOf3]⟩
theorem l_j:c_f Tryz.prog 30 [(.slice none 0 0),.slice none 0 0,(.int .i64 0)] [(0,1),(1,2)]:=⟨λw=>Tryz.zeroValue30 w,_,Tryz.underlying30,λw=>by simp [Tryz.sizeOf26,Tryz.sizeOf28]⟩
theorem c_U:c_f Tryz.prog 56 [(.int .i64 0),Str.v ⟨[]⟩,.int .i64 0,(.slice none 0 0)] [(0,1),(1,1),(2,1),(3,1)]:=⟨λw=>Tryz.zeroValue56 w,_,Tryz.underlying56,λw=>by simp [Tryz.sizeOf22,Tryz.sizeOf3,Tryz.sizeOf9]⟩
theorem l_k:c_f Tryz.prog 61 [(.slice none 0 0)] [(0,1)]:=⟨λw=>Tryz.zeroValue61 w,_,Tryz.underlying61,λw=>by simp [Tryz.sizeOf59]⟩
theorem j_Z:c_f Tryz.prog 66 [(Str.v ⟨[]⟩),.int .i64 0,(.slice none 0 0)] [(0,1),(1,1),(2,1)]:=⟨λw=>Tryz.zeroValue66 w,_,Tryz.underlying66,λw=>by simp [Tryz.sizeOf22,Tryz.sizeOf3,Tryz.sizeOf9]⟩
theorem r_w:c_f Tryz.prog 68 [(.slice none 0 0),.int .i64 0,(.int .i64 0)] [(0,1),(1,1),(2,1)]:=⟨λw=>Tryz.zeroValue68 w,_,Tryz.underlying68,λw=>by simp [Tryz.sizeOf22,Tryz.sizeOf3]⟩
theorem l_l:c_f Tryz.prog 83 [] []:=⟨λw=>Tryz.zeroValue83 w,_,Tryz.underlying83,λw=>by simp []⟩
theorem a_6:c_f Tryz.prog 92 [(.int .i64 0),.slice none 0 0,(.slice none 0 0)] [(0,1),(1,1),(2,1)]:=⟨λw=>Tryz.zeroValue92 w,_,Tryz.underlying92,λw=>by simp [Tryz.sizeOf22,Tryz.sizeOf3,Tryz.sizeOf90]⟩
theorem s_:El Tryz.prog 22 5 1 1 (.int .u8 0):=⟨Tryz.underlying22,by kernel_rfl,rfl,by decide,by decide⟩
theorem e_H:El Tryz.prog 24 61 1 24 (.agg #[(.slice none 0 0)]):=⟨Tryz.underlying24,by kernel_rfl,rfl,by decide,by decide⟩
theorem c_x:El Tryz.prog 39 9 1 16 (Str.v ⟨[]⟩):=⟨Tryz.underlying39,by kernel_rfl,rfl,by decide,by decide⟩
theorem c_J:El Tryz.prog 50 66 3 48 (.agg #[(Str.v ⟨[]⟩),.int .i64 0,(.slice none 0 0)]):=⟨Tryz.underlying50,by kernel_rfl,rfl,by decide,by decide⟩
theorem h_7:El Tryz.prog 52 56 4 56 (.agg #[(.int .i64 0),Str.v ⟨[]⟩,.int .i64 0,(.slice none 0 0)]):=⟨Tryz.underlying52,by kernel_rfl,rfl,by decide,by decide⟩
theorem c_K:El Tryz.prog 59 100 8 136 (.agg #[(Str.v ⟨[]⟩),.int .i64 0,.int .i64 0,.bool false,.slice none 0 0,.slice none 0 0,.slice none 0 0,(.slice none 0 0)]):=⟨Tryz.underlying59,by kernel_rfl,rfl,by decide,by decide⟩
theorem c_L:El Tryz.prog 90 92 3 56 (.agg #[(.int .i64 0),.slice none 0 0,(.slice none 0 0)]):=⟨Tryz.underlying90,by kernel_rfl,rfl,by decide,by decide⟩
theorem a_G:El Tryz.prog 98 3 1 8 (.int .i64 0):=⟨Tryz.underlying98,by kernel_rfl,rfl,by decide,by decide⟩
theorem e_I:Fld Tryz.prog 100 0 0:=⟨_,_,Tryz.underlying100,rfl,rfl,1,λw=>Tryz.sizeOf9 w,by decide⟩
theorem b_B:Fld Tryz.prog 100 1 1:=⟨_,_,Tryz.underlying100,rfl,rfl,1,λw=>Tryz.sizeOf3 w,by decide⟩
theorem a_v:Fld Tryz.prog 100 2 2:=⟨_,_,Tryz.underlying100,rfl,rfl,1,λw=>Tryz.sizeOf3 w,by decide⟩
theorem d_l:Fld Tryz.prog 100 3 3:=⟨_,_,Tryz.underlying100,rfl,rfl,1,λw=>Tryz.sizeOf4 w,by decide⟩
theorem a_W:Fld Tryz.prog 100 4 4:=⟨_,_,Tryz.underlying100,rfl,rfl,1,λw=>Tryz.sizeOf22 w,by decide⟩
theorem b_u:Fld Tryz.prog 100 5 5:=⟨_,_,Tryz.underlying100,rfl,rfl,1,λw=>Tryz.sizeOf39 w,by decide⟩
theorem a_x:Fld Tryz.prog 100 6 6:=⟨_,_,Tryz.underlying100,rfl,rfl,1,λw=>Tryz.sizeOf98 w,by decide⟩
theorem M_:Fld Tryz.prog 100 7 7:=⟨_,_,Tryz.underlying100,rfl,rfl,1,λw=>Tryz.sizeOf98 w,by decide⟩
theorem n_U:Fld Tryz.prog 141 0 0:=⟨_,_,Tryz.underlying141,rfl,rfl,1,λw=>Tryz.sizeOf61 w,by decide⟩
theorem h_8:Fld Tryz.prog 141 1 1:=⟨_,_,Tryz.underlying141,rfl,rfl,1,λw=>Tryz.sizeOf22 w,by decide⟩
theorem r_x:Fld Tryz.prog 150 0 0:=⟨_,_,Tryz.underlying150,rfl,rfl,1,λw=>Tryz.sizeOf3 w,by decide⟩
theorem r_y:Fld Tryz.prog 150 1 1:=⟨_,_,Tryz.underlying150,rfl,rfl,1,λw=>Tryz.sizeOf3 w,by decide⟩
theorem a_Y:Fld Tryz.prog 26 0 0:=⟨_,_,Tryz.underlying26,rfl,rfl,1,λw=>Tryz.sizeOf24 w,by decide⟩
theorem a_R:Fld Tryz.prog 28 0 0:=⟨_,_,Tryz.underlying28,rfl,rfl,1,λw=>Tryz.sizeOf22 w,by decide⟩
theorem c_y:Fld Tryz.prog 28 1 1:=⟨_,_,Tryz.underlying28,rfl,rfl,1,λw=>Tryz.sizeOf3 w,by decide⟩
theorem d_H:Fld Tryz.prog 30 0 0:=⟨_,_,Tryz.underlying30,rfl,rfl,1,λw=>Tryz.sizeOf26 w,by decide⟩
theorem a_S:Fld Tryz.prog 30 1 1:=⟨_,_,Tryz.underlying30,rfl,rfl,2,λw=>Tryz.sizeOf28 w,by decide⟩
theorem c_V:Fld Tryz.prog 56 0 0:=⟨_,_,Tryz.underlying56,rfl,rfl,1,λw=>Tryz.sizeOf3 w,by decide⟩
theorem d_I:Fld Tryz.prog 56 1 1:=⟨_,_,Tryz.underlying56,rfl,rfl,1,λw=>Tryz.sizeOf9 w,by decide⟩
theorem c_W:Fld Tryz.prog 56 2 2:=⟨_,_,Tryz.underlying56,rfl,rfl,1,λw=>Tryz.sizeOf3 w,by decide⟩
theorem d_J:Fld Tryz.prog 56 3 3:=⟨_,_,Tryz.underlying56,rfl,rfl,1,λw=>Tryz.sizeOf22 w,by decide⟩
theorem F_:Fld Tryz.prog 61 0 0:=⟨_,_,Tryz.underlying61,rfl,rfl,1,λw=>Tryz.sizeOf59 w,by decide⟩
theorem k_0:Fld Tryz.prog 66 0 0:=⟨_,_,Tryz.underlying66,rfl,rfl,1,λw=>Tryz.sizeOf9 w,by decide⟩
theorem n_V:Fld Tryz.prog 68 0 0:=⟨_,_,Tryz.underlying68,rfl,rfl,1,λw=>Tryz.sizeOf22 w,by decide⟩
theorem k_1:Fld Tryz.prog 68 1 1:=⟨_,_,Tryz.underlying68,rfl,rfl,1,λw=>Tryz.sizeOf3 w,by decide⟩
theorem k_2:Fld Tryz.prog 68 2 2:=⟨_,_,Tryz.underlying68,rfl,rfl,1,λw=>Tryz.sizeOf3 w,by decide⟩
theorem b_C:Fld Tryz.prog 92 0 0:=⟨_,_,Tryz.underlying92,rfl,rfl,1,λw=>Tryz.sizeOf3 w,by decide⟩
theorem b_c:Fld Tryz.prog 92 1 1:=⟨_,_,Tryz.underlying92,rfl,rfl,1,λw=>Tryz.sizeOf22 w,by decide⟩
theorem a_O:Fld Tryz.prog 92 2 2:=⟨_,_,Tryz.underlying92,rfl,rfl,1,λw=>Tryz.sizeOf90 w,by decide⟩
abbrev l_:=@Tryz.sizeOf100
abbrev d_m:=@Tryz.sizeOf22
abbrev z_24:=@Tryz.sizeOf24
abbrev b_v:=@Tryz.sizeOf26
abbrev a_1:=@Tryz.sizeOf28
abbrev z_3:=@Tryz.sizeOf3
abbrev R_:=@Tryz.sizeOf30
abbrev z_39:=@Tryz.sizeOf39
abbrev z_4:=@Tryz.sizeOf4
abbrev z_5:=@Tryz.sizeOf5
abbrev a_7:=@Tryz.sizeOf56
abbrev h_9:=@Tryz.sizeOf59
abbrev o_:=@Tryz.sizeOf61
abbrev b_w:=@Tryz.sizeOf66
abbrev z_9:=@Tryz.sizeOf9
abbrev e_J:=@Tryz.sizeOf90
abbrev f_:=@Tryz.sizeOf92
abbrev c_i:=@Tryz.sizeOf98
abbrev e_b:=@Tryz.underlying143
abbrev d_146:=@Tryz.underlying146
abbrev d_148:=@Tryz.underlying148
abbrev e_:=@Tryz.underlying22
abbrev b_j:=@Tryz.underlying24
abbrev d_3:=@Tryz.underlying3
abbrev a_H:=@Tryz.underlying39
abbrev d_4:=@Tryz.underlying4
abbrev d_5:=@Tryz.underlying5
abbrev b_W:=@Tryz.underlying50
abbrev c_M:=@Tryz.underlying52
abbrev L_:=@Tryz.underlying59
abbrev d_83:=@Tryz.underlying83
abbrev d_9:=@Tryz.underlying9
abbrev b_M:=@Tryz.underlying90
abbrev A_:=@Tryz.underlying98
theorem b_I (w:World):(zeroValue 100).run Tryz.prog w = .ok (.agg #[(Str.v ⟨[]⟩),.int .i64 0,.int .i64 0,.bool false,.slice none 0 0,.slice none 0 0,.slice none 0 0,(.slice none 0 0)]) w:=Tryz.zeroValue100 w
theorem r_z (w:World):(zeroValue 146).run Tryz.prog w = .ok (.pointer none) w:=Tryz.zeroValue146 w
theorem f_T (w:World):(zeroValue 26).run Tryz.prog w = .ok (.agg #[(.slice none 0 0)]) w:=Tryz.zeroValue26 w
theorem c_X (w:World):(zeroValue 28).run Tryz.prog w = .ok (.agg #[(.slice none 0 0),(.int .i64 0)]) w:=Tryz.zeroValue28 w
theorem zero_3 (w:World):(zeroValue 3).run Tryz.prog w = .ok (.int .i64 0) w:=Tryz.zeroValue3 w
theorem b_N (w:World):(zeroValue 30).run Tryz.prog w = .ok (.agg #[(.slice none 0 0),.slice none 0 0,(.int .i64 0)]) w:=Tryz.zeroValue30 w
theorem e_c (w:World):(zeroValue 56).run Tryz.prog w = .ok (.agg #[(.int .i64 0),Str.v ⟨[]⟩,.int .i64 0,(.slice none 0 0)]) w:=Tryz.zeroValue56 w
theorem c_N (w:World):(zeroValue 61).run Tryz.prog w = .ok (.agg #[(.slice none 0 0)]) w:=Tryz.zeroValue61 w
theorem i_u (w:World):(zeroValue 66).run Tryz.prog w = .ok (.agg #[(Str.v ⟨[]⟩),.int .i64 0,(.slice none 0 0)]) w:=Tryz.zeroValue66 w
theorem a_k (w:World):(zeroValue 92).run Tryz.prog w = .ok (.agg #[(.int .i64 0),.slice none 0 0,(.slice none 0 0)]) w:=Tryz.zeroValue92 w
end Go.Vw
