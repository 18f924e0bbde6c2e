
import Derived.Test.YtgpbbhplnbndeaaGreatDoorV0
import Derived.Test.YtgpbbhplnbndeaaGreatDoorProg
set_option linter.unusedVariables false
namespace Go.Vw
open Go.RowKit Dat Go.Proofs
theorem mo:Tryz.prog.follows .mixedOrders=true:=by kernel_rfl
abbrev c_q:=@Tryz.isAgg109
abbrev g_143:=@Tryz.isAgg143
abbrev a_a:=@Tryz.isAgg152
abbrev F_:=@Tryz.isAgg22
abbrev Q_:=@Tryz.isAgg24
abbrev m_:=@Tryz.isAgg26
abbrev p_:=@Tryz.isAgg28
abbrev g_3:=@Tryz.isAgg3
abbrev c_r:=@Tryz.isAgg35
abbrev g_4:=@Tryz.isAgg4
abbrev a_m:=@Tryz.isAgg44
abbrev u_:=@Tryz.isAgg46
abbrev g_49:=@Tryz.isAgg49
abbrev g_5:=@Tryz.isAgg5
abbrev g_53:=@Tryz.isAgg53
abbrev C_:=@Tryz.isAgg58
abbrev g_83:=@Tryz.isAgg83
abbrev d_6:=@Tryz.isAgg86
abbrev g_9:=@Tryz.isAgg9
theorem p_6:c_0 Tryz.prog 111 [(.slice none 0 0),(.slice none 0 0)] [(0,1),(1,1)]:=⟨λw=>Tryz.zeroValue111 w,_,Tryz.underlying111,λw=>by simp [Tryz.sizeOf22,Tryz.sizeOf26]⟩
theorem p_7:c_0 Tryz.prog 138 [(.slice none 0 0),(.slice none 0 0)] [(0,1),(1,1)]:=⟨λw=>Tryz.zeroValue138 w,_,Tryz.underlying138,λw=>by simp [Tryz.sizeOf22,Tryz.sizeOf26]⟩
theorem p_8:c_0 Tryz.prog 147 [(.int .i64 0),(.int .i64 0)] [(0,1),(1,1)]:=⟨λw=>Tryz.zeroValue147 w,_,Tryz.underlying147,λw=>by simp [Tryz.sizeOf3]⟩
theorem p_9:c_0 Tryz.prog 150 [(.slice none 0 0),.slice none 0 0,(.int .i64 0)] [(0,1),(1,1),(2,1)]:=⟨λw=>Tryz.zeroValue150 w,_,Tryz.underlying150,λw=>by simp [Tryz.sizeOf22,Tryz.sizeOf26,Tryz.sizeOf3]⟩
theorem c_s:c_0 Tryz.prog 152 [(.int .i64 0),(.int .i64 0)] [(0,1),(1,1)]:=⟨λw=>Tryz.zeroValue152 w,_,Tryz.underlying152,λw=>by simp [Tryz.sizeOf3]⟩
theorem p_a:c_0 Tryz.prog 26 [(.slice none 0 0)] [(0,1)]:=⟨λw=>Tryz.zeroValue26 w,_,Tryz.underlying26,λw=>by simp [Tryz.sizeOf24]⟩
theorem S_:c_0 Tryz.prog 46 [(.int .i64 0),.slice none 0 0,(.slice none 0 0)] [(0,1),(1,1),(2,1)]:=⟨λw=>Tryz.zeroValue46 w,_,Tryz.underlying46,λw=>by simp [Tryz.sizeOf22,Tryz.sizeOf3,Tryz.sizeOf44]⟩
theorem l_H:c_0 Tryz.prog 53 [(Str.v ⟨[]⟩),.int .i64 0,.int .i64 0,(.int .i64 0)] [(0,1),(1,1),(2,1),(3,1)]:=⟨λw=>Tryz.zeroValue53 w,_,Tryz.underlying53,λw=>by simp [Tryz.sizeOf3,Tryz.sizeOf9]⟩
theorem p_b:c_0 Tryz.prog 58 [(Str.v ⟨[]⟩),.int .i64 0,.int .i64 0,.bool false,.slice none 0 0,.slice none 0 0,.slice none 0 0,(.slice none 0 0)] [(0,1),(1,1),(2,1),(3,1),(4,1),(5,1),(6,1),(7,1)]:=⟨λw=>Tryz.zeroValue58 w,_,Tryz.underlying58,λw=>by simp [Tryz.sizeOf22,Tryz.sizeOf28,Tryz.sizeOf3,Tryz.sizeOf35,Tryz.sizeOf4,Tryz.sizeOf9]⟩
theorem p_c:c_0 Tryz.prog 60 [(.slice none 0 0),.int .i64 0,(.int .i64 0)] [(0,1),(1,1),(2,1)]:=⟨λw=>Tryz.zeroValue60 w,_,Tryz.underlying60,λw=>by simp [Tryz.sizeOf22,Tryz.sizeOf3]⟩
theorem p_d:c_0 Tryz.prog 92 [(.slice none 0 0),.slice none 0 0,(.slice none 0 0)] [(0,1),(1,1),(2,1)]:=⟨λw=>Tryz.zeroValue92 w,_,Tryz.underlying92,λw=>by simp [Tryz.sizeOf22,Tryz.sizeOf26,Tryz.sizeOf49]⟩
theorem H_:El Tryz.prog 22 5 1 1 (.int .u8 0):=⟨Tryz.underlying22,by kernel_rfl,rfl,by decide,by decide⟩
theorem i_L:El Tryz.prog 24 58 8 136 (.agg #[(Str.v ⟨[]⟩),.int .i64 0,.int .i64 0,.bool false,.slice none 0 0,.slice none 0 0,.slice none 0 0,(.slice none 0 0)]):=⟨Tryz.underlying24,by kernel_rfl,rfl,by decide,by decide⟩
theorem a_u:El Tryz.prog 28 3 1 8 (.int .i64 0):=⟨Tryz.underlying28,by kernel_rfl,rfl,by decide,by decide⟩
theorem f_1:El Tryz.prog 35 9 1 16 (Str.v ⟨[]⟩):=⟨Tryz.underlying35,by kernel_rfl,rfl,by decide,by decide⟩
theorem d_7:El Tryz.prog 44 46 3 56 (.agg #[(.int .i64 0),.slice none 0 0,(.slice none 0 0)]):=⟨Tryz.underlying44,by kernel_rfl,rfl,by decide,by decide⟩
theorem g_b:El Tryz.prog 49 53 4 40 (.agg #[(Str.v ⟨[]⟩),.int .i64 0,.int .i64 0,(.int .i64 0)]):=⟨Tryz.underlying49,by kernel_rfl,rfl,by decide,by decide⟩
theorem el_55:El Tryz.prog 55 4 1 1 (.bool false):=⟨Tryz.underlying55,by kernel_rfl,rfl,by decide,by decide⟩
theorem j_T:Fld Tryz.prog 111 0 0:=⟨_,_,Tryz.underlying111,rfl,rfl,1,λw=>Tryz.sizeOf26 w,by decide⟩
theorem g_c:Fld Tryz.prog 111 1 1:=⟨_,_,Tryz.underlying111,rfl,rfl,1,λw=>Tryz.sizeOf22 w,by decide⟩
theorem l_I:Fld Tryz.prog 138 0 0:=⟨_,_,Tryz.underlying138,rfl,rfl,1,λw=>Tryz.sizeOf26 w,by decide⟩
theorem g_d:Fld Tryz.prog 138 1 1:=⟨_,_,Tryz.underlying138,rfl,rfl,1,λw=>Tryz.sizeOf22 w,by decide⟩
theorem p_e:Fld Tryz.prog 147 0 0:=⟨_,_,Tryz.underlying147,rfl,rfl,1,λw=>Tryz.sizeOf3 w,by decide⟩
theorem p_f:Fld Tryz.prog 147 1 1:=⟨_,_,Tryz.underlying147,rfl,rfl,1,λw=>Tryz.sizeOf3 w,by decide⟩
theorem l_J:Fld Tryz.prog 150 0 0:=⟨_,_,Tryz.underlying150,rfl,rfl,1,λw=>Tryz.sizeOf26 w,by decide⟩
theorem d_s:Fld Tryz.prog 150 1 1:=⟨_,_,Tryz.underlying150,rfl,rfl,1,λw=>Tryz.sizeOf22 w,by decide⟩
theorem i_M:Fld Tryz.prog 150 2 2:=⟨_,_,Tryz.underlying150,rfl,rfl,1,λw=>Tryz.sizeOf3 w,by decide⟩
theorem c_I:Fld Tryz.prog 152 0 0:=⟨_,_,Tryz.underlying152,rfl,rfl,1,λw=>Tryz.sizeOf3 w,by decide⟩
theorem d_8:Fld Tryz.prog 152 1 1:=⟨_,_,Tryz.underlying152,rfl,rfl,1,λw=>Tryz.sizeOf3 w,by decide⟩
theorem N_:Fld Tryz.prog 26 0 0:=⟨_,_,Tryz.underlying26,rfl,rfl,1,λw=>Tryz.sizeOf24 w,by decide⟩
theorem a_Q:Fld Tryz.prog 46 0 0:=⟨_,_,Tryz.underlying46,rfl,rfl,1,λw=>Tryz.sizeOf3 w,by decide⟩
theorem a_C:Fld Tryz.prog 46 1 1:=⟨_,_,Tryz.underlying46,rfl,rfl,1,λw=>Tryz.sizeOf22 w,by decide⟩
theorem a_4:Fld Tryz.prog 46 2 2:=⟨_,_,Tryz.underlying46,rfl,rfl,1,λw=>Tryz.sizeOf44 w,by decide⟩
theorem j_U:Fld Tryz.prog 53 1 1:=⟨_,_,Tryz.underlying53,rfl,rfl,1,λw=>Tryz.sizeOf3 w,by decide⟩
theorem f_53_3:Fld Tryz.prog 53 3 3:=⟨_,_,Tryz.underlying53,rfl,rfl,1,λw=>Tryz.sizeOf3 w,by decide⟩
theorem f_2:Fld Tryz.prog 58 0 0:=⟨_,_,Tryz.underlying58,rfl,rfl,1,λw=>Tryz.sizeOf9 w,by decide⟩
theorem a_b:Fld Tryz.prog 58 1 1:=⟨_,_,Tryz.underlying58,rfl,rfl,1,λw=>Tryz.sizeOf3 w,by decide⟩
theorem a_g:Fld Tryz.prog 58 2 2:=⟨_,_,Tryz.underlying58,rfl,rfl,1,λw=>Tryz.sizeOf3 w,by decide⟩
theorem c_J:Fld Tryz.prog 58 3 3:=⟨_,_,Tryz.underlying58,rfl,rfl,1,λw=>Tryz.sizeOf4 w,by decide⟩
theorem a_F:Fld Tryz.prog 58 4 4:=⟨_,_,Tryz.underlying58,rfl,rfl,1,λw=>Tryz.sizeOf22 w,by decide⟩
theorem c_a:Fld Tryz.prog 58 5 5:=⟨_,_,Tryz.underlying58,rfl,rfl,1,λw=>Tryz.sizeOf35 w,by decide⟩
theorem a_J:Fld Tryz.prog 58 6 6:=⟨_,_,Tryz.underlying58,rfl,rfl,1,λw=>Tryz.sizeOf28 w,by decide⟩
theorem y_:Fld Tryz.prog 58 7 7:=⟨_,_,Tryz.underlying58,rfl,rfl,1,λw=>Tryz.sizeOf28 w,by decide⟩
theorem l_K:Fld Tryz.prog 60 0 0:=⟨_,_,Tryz.underlying60,rfl,rfl,1,λw=>Tryz.sizeOf22 w,by decide⟩
theorem i_N:Fld Tryz.prog 60 1 1:=⟨_,_,Tryz.underlying60,rfl,rfl,1,λw=>Tryz.sizeOf3 w,by decide⟩
theorem i_O:Fld Tryz.prog 60 2 2:=⟨_,_,Tryz.underlying60,rfl,rfl,1,λw=>Tryz.sizeOf3 w,by decide⟩
theorem h_h:Fld Tryz.prog 92 0 0:=⟨_,_,Tryz.underlying92,rfl,rfl,1,λw=>Tryz.sizeOf26 w,by decide⟩
theorem f_92_1:Fld Tryz.prog 92 1 1:=⟨_,_,Tryz.underlying92,rfl,rfl,1,λw=>Tryz.sizeOf22 w,by decide⟩
theorem h_i:Fld Tryz.prog 92 2 2:=⟨_,_,Tryz.underlying92,rfl,rfl,1,λw=>Tryz.sizeOf49 w,by decide⟩
abbrev A_:=@Tryz.sizeOf152
abbrev d_t:=@Tryz.sizeOf22
abbrev z_24:=@Tryz.sizeOf24
abbrev l_:=@Tryz.sizeOf26
abbrev f_3:=@Tryz.sizeOf28
abbrev z_3:=@Tryz.sizeOf3
abbrev z_35:=@Tryz.sizeOf35
abbrev z_4:=@Tryz.sizeOf4
abbrev b_R:=@Tryz.sizeOf44
abbrev e_:=@Tryz.sizeOf46
abbrev z_49:=@Tryz.sizeOf49
abbrev z_5:=@Tryz.sizeOf5
abbrev g_e:=@Tryz.sizeOf53
abbrev i_:=@Tryz.sizeOf58
abbrev z_83:=@Tryz.sizeOf83
abbrev z_9:=@Tryz.sizeOf9
abbrev d_u:=@Tryz.underlying140
abbrev d_143:=@Tryz.underlying143
abbrev d_145:=@Tryz.underlying145
abbrev j_:=@Tryz.underlying22
abbrev P_:=@Tryz.underlying24
abbrev h_:=@Tryz.underlying28
abbrev d_3:=@Tryz.underlying3
abbrev a_w:=@Tryz.underlying35
abbrev a_e:=@Tryz.underlying44
abbrev d_Z:=@Tryz.underlying49
abbrev d_5:=@Tryz.underlying5
abbrev g_f:=@Tryz.underlying55
abbrev e_0:=@Tryz.underlying83
abbrev d_9:=@Tryz.underlying9
theorem p_g (w:World):(zeroValue 143).run Tryz.prog w = .ok (.pointer none) w:=Tryz.zeroValue143 w
theorem b_n (w:World):(zeroValue 152).run Tryz.prog w = .ok (.agg #[(.int .i64 0),(.int .i64 0)]) w:=Tryz.zeroValue152 w
theorem i_P (w:World):(zeroValue 26).run Tryz.prog w = .ok (.agg #[(.slice none 0 0)]) w:=Tryz.zeroValue26 w
theorem zero_3 (w:World):(zeroValue 3).run Tryz.prog w = .ok (.int .i64 0) w:=Tryz.zeroValue3 w
theorem a_7 (w:World):(zeroValue 46).run Tryz.prog w = .ok (.agg #[(.int .i64 0),.slice none 0 0,(.slice none 0 0)]) w:=Tryz.zeroValue46 w
theorem p_h (w:World):(zeroValue 53).run Tryz.prog w = .ok (.agg #[(Str.v ⟨[]⟩),.int .i64 0,.int .i64 0,(.int .i64 0)]) w:=Tryz.zeroValue53 w
theorem b_4 (w:World):(zeroValue 58).run Tryz.prog w = .ok (.agg #[(Str.v ⟨[]⟩),.int .i64 0,.int .i64 0,.bool false,.slice none 0 0,.slice none 0 0,.slice none 0 0,(.slice none 0 0)]) w:=Tryz.zeroValue58 w
theorem l_L (w:World):(zeroValue 83).run Tryz.prog w = .ok (.agg #[(.int .i64 0),.int .i64 0,.int .i64 0,.int .i64 0,.int .i64 0,.int .i64 0,.int .i64 0,.int .i64 0,.int .i64 0,.int .i64 0,.int .i64 0,.int .i64 0,.int .i64 0,.int .i64 0,.int .i64 0,.int .i64 0,.int .i64 0,.int .i64 0,.int .i64 0,.int .i64 0,.int .i64 0,.int .i64 0,.int .i64 0,(.int .i64 0)]) w:=Tryz.zeroValue83 w
end Go.Vw
