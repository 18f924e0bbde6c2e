
import Derived.Test.YtahlbmonbflopaaGreatDoorV0
import Derived.Test.YtahlbmonbflopaaGreatDoorProg
set_option linter.unusedVariables false
namespace Go.Vw
open Go.RowKit Dat Go.Proofs
theorem mo:Tryz.prog.follows .mixedOrders=true:=by kernel_rfl
abbrev c_N:=@Tryz.isAgg139
abbrev T_:=@Tryz.isAgg22
abbrev a_Y:=@Tryz.isAgg24
abbrev b_G:=@Tryz.isAgg26
abbrev v_:=@Tryz.isAgg29
abbrev g_3:=@Tryz.isAgg3
abbrev F_:=@Tryz.isAgg35
abbrev l_:=@Tryz.isAgg37
abbrev g_4:=@Tryz.isAgg4
abbrev a_9:=@Tryz.isAgg42
abbrev k_:=@Tryz.isAgg44
abbrev g_5:=@Tryz.isAgg5
abbrev b_s:=@Tryz.isAgg67
abbrev H_:=@Tryz.isAgg69
abbrev g_84:=@Tryz.isAgg84
abbrev g_9:=@Tryz.isAgg9
theorem s_2:c_F Tryz.prog 141 [(.slice none 0 0),(.slice none 0 0)] [(0,1),(1,1)]:=⟨λw=>Tryz.zeroValue141 w,_,Tryz.underlying141,λw=>by simp [Tryz.sizeOf22,Tryz.sizeOf37]⟩
theorem s_3:c_F Tryz.prog 26 [(.slice none 0 0)] [(0,1)]:=⟨λw=>Tryz.zeroValue26 w,_,Tryz.underlying26,λw=>by simp [Tryz.sizeOf24]⟩
theorem l_7:c_F Tryz.prog 37 [(.slice none 0 0)] [(0,1)]:=⟨λw=>Tryz.zeroValue37 w,_,Tryz.underlying37,λw=>by simp [Tryz.sizeOf35]⟩
theorem I_:c_F Tryz.prog 44 [(.int .i64 0),.slice none 0 0,(.slice none 0 0)] [(0,1),(1,1),(2,1)]:=⟨λw=>Tryz.zeroValue44 w,_,Tryz.underlying44,λw=>by simp [Tryz.sizeOf22,Tryz.sizeOf3,Tryz.sizeOf42]⟩
theorem s_4:c_F Tryz.prog 57 [(.slice none 0 0),.int .i64 0,(.int .i64 0)] [(0,1),(1,1),(2,1)]:=⟨λw=>Tryz.zeroValue57 w,_,Tryz.underlying57,λw=>by simp [Tryz.sizeOf22,Tryz.sizeOf3]⟩
theorem n_S:c_F Tryz.prog 69 [(Str.v ⟨[]⟩),.int .i64 0,.int .i64 0,.bool false,.slice none 0 0,.slice none 0 0,.slice none 0 0,(.slice none 0 0)] [(0,1),(1,1),(2,1),(3,1),(4,1),(5,1),(6,1),(7,1)]:=⟨λw=>Tryz.zeroValue69 w,_,Tryz.underlying69,λw=>by simp [Tryz.sizeOf22,Tryz.sizeOf29,Tryz.sizeOf3,Tryz.sizeOf4,Tryz.sizeOf67,Tryz.sizeOf9]⟩
theorem s_5:c_F Tryz.prog 79 [(.slice none 0 0),(.slice none 0 0)] [(0,1),(1,1)]:=⟨λw=>Tryz.zeroValue79 w,_,Tryz.underlying79,λw=>by simp [Tryz.sizeOf22,Tryz.sizeOf37]⟩
theorem s_6:c_F Tryz.prog 88 [(.int .i64 0),(.int .i64 0)] [(0,1),(1,1)]:=⟨λw=>Tryz.zeroValue88 w,_,Tryz.underlying88,λw=>by simp [Tryz.sizeOf3]⟩
theorem s_7:c_F Tryz.prog 92 [(.slice none 0 0),(.slice none 0 0)] [(0,1),(1,1)]:=⟨λw=>Tryz.zeroValue92 w,_,Tryz.underlying92,λw=>by simp [Tryz.sizeOf37]⟩
theorem z_:El Tryz.prog 22 5 1 1 (.int .u8 0):=⟨Tryz.underlying22,by kernel_rfl,rfl,by decide,by decide⟩
theorem f_f:El Tryz.prog 24 37 1 24 (.agg #[(.slice none 0 0)]):=⟨Tryz.underlying24,by kernel_rfl,rfl,by decide,by decide⟩
theorem a_a:El Tryz.prog 29 3 1 8 (.int .i64 0):=⟨Tryz.underlying29,by kernel_rfl,rfl,by decide,by decide⟩
theorem d_D:El Tryz.prog 35 69 8 136 (.agg #[(Str.v ⟨[]⟩),.int .i64 0,.int .i64 0,.bool false,.slice none 0 0,.slice none 0 0,.slice none 0 0,(.slice none 0 0)]):=⟨Tryz.underlying35,by kernel_rfl,rfl,by decide,by decide⟩
theorem a_U:El Tryz.prog 42 44 3 56 (.agg #[(.int .i64 0),.slice none 0 0,(.slice none 0 0)]):=⟨Tryz.underlying42,by kernel_rfl,rfl,by decide,by decide⟩
theorem c_O:El Tryz.prog 67 9 1 16 (Str.v ⟨[]⟩):=⟨Tryz.underlying67,by kernel_rfl,rfl,by decide,by decide⟩
theorem l_8:Fld Tryz.prog 141 0 0:=⟨_,_,Tryz.underlying141,rfl,rfl,1,λw=>Tryz.sizeOf37 w,by decide⟩
theorem h_x:Fld Tryz.prog 141 1 1:=⟨_,_,Tryz.underlying141,rfl,rfl,1,λw=>Tryz.sizeOf22 w,by decide⟩
theorem a_M:Fld Tryz.prog 26 0 0:=⟨_,_,Tryz.underlying26,rfl,rfl,1,λw=>Tryz.sizeOf24 w,by decide⟩
theorem C_:Fld Tryz.prog 37 0 0:=⟨_,_,Tryz.underlying37,rfl,rfl,1,λw=>Tryz.sizeOf35 w,by decide⟩
theorem a_V:Fld Tryz.prog 44 0 0:=⟨_,_,Tryz.underlying44,rfl,rfl,1,λw=>Tryz.sizeOf3 w,by decide⟩
theorem a_I:Fld Tryz.prog 44 1 1:=⟨_,_,Tryz.underlying44,rfl,rfl,1,λw=>Tryz.sizeOf22 w,by decide⟩
theorem V_:Fld Tryz.prog 44 2 2:=⟨_,_,Tryz.underlying44,rfl,rfl,1,λw=>Tryz.sizeOf42 w,by decide⟩
theorem n_T:Fld Tryz.prog 57 0 0:=⟨_,_,Tryz.underlying57,rfl,rfl,1,λw=>Tryz.sizeOf22 w,by decide⟩
theorem k_8:Fld Tryz.prog 57 1 1:=⟨_,_,Tryz.underlying57,rfl,rfl,1,λw=>Tryz.sizeOf3 w,by decide⟩
theorem k_9:Fld Tryz.prog 57 2 2:=⟨_,_,Tryz.underlying57,rfl,rfl,1,λw=>Tryz.sizeOf3 w,by decide⟩
theorem f_g:Fld Tryz.prog 69 0 0:=⟨_,_,Tryz.underlying69,rfl,rfl,1,λw=>Tryz.sizeOf9 w,by decide⟩
theorem a_s:Fld Tryz.prog 69 1 1:=⟨_,_,Tryz.underlying69,rfl,rfl,1,λw=>Tryz.sizeOf3 w,by decide⟩
theorem a_n:Fld Tryz.prog 69 2 2:=⟨_,_,Tryz.underlying69,rfl,rfl,1,λw=>Tryz.sizeOf3 w,by decide⟩
theorem c_P:Fld Tryz.prog 69 3 3:=⟨_,_,Tryz.underlying69,rfl,rfl,1,λw=>Tryz.sizeOf4 w,by decide⟩
theorem a_Z:Fld Tryz.prog 69 4 4:=⟨_,_,Tryz.underlying69,rfl,rfl,1,λw=>Tryz.sizeOf22 w,by decide⟩
theorem b_7:Fld Tryz.prog 69 5 5:=⟨_,_,Tryz.underlying69,rfl,rfl,1,λw=>Tryz.sizeOf67 w,by decide⟩
theorem a_D:Fld Tryz.prog 69 6 6:=⟨_,_,Tryz.underlying69,rfl,rfl,1,λw=>Tryz.sizeOf29 w,by decide⟩
theorem w_:Fld Tryz.prog 69 7 7:=⟨_,_,Tryz.underlying69,rfl,rfl,1,λw=>Tryz.sizeOf29 w,by decide⟩
theorem n_U:Fld Tryz.prog 79 0 0:=⟨_,_,Tryz.underlying79,rfl,rfl,1,λw=>Tryz.sizeOf37 w,by decide⟩
theorem h_y:Fld Tryz.prog 79 1 1:=⟨_,_,Tryz.underlying79,rfl,rfl,1,λw=>Tryz.sizeOf22 w,by decide⟩
theorem f_88_0:Fld Tryz.prog 88 0 0:=⟨_,_,Tryz.underlying88,rfl,rfl,1,λw=>Tryz.sizeOf3 w,by decide⟩
theorem f_88_1:Fld Tryz.prog 88 1 1:=⟨_,_,Tryz.underlying88,rfl,rfl,1,λw=>Tryz.sizeOf3 w,by decide⟩
theorem f_92_0:Fld Tryz.prog 92 0 0:=⟨_,_,Tryz.underlying92,rfl,rfl,1,λw=>Tryz.sizeOf37 w,by decide⟩
theorem k_a:Fld Tryz.prog 92 1 1:=⟨_,_,Tryz.underlying92,rfl,rfl,1,λw=>Tryz.sizeOf37 w,by decide⟩
abbrev f_h:=@Tryz.sizeOf22
abbrev z_24:=@Tryz.sizeOf24
abbrev b_c:=@Tryz.sizeOf26
abbrev c_d:=@Tryz.sizeOf29
abbrev z_3:=@Tryz.sizeOf3
abbrev z_35:=@Tryz.sizeOf35
abbrev g_:=@Tryz.sizeOf37
abbrev z_4:=@Tryz.sizeOf4
abbrev c_B:=@Tryz.sizeOf42
abbrev d_:=@Tryz.sizeOf44
abbrev z_5:=@Tryz.sizeOf5
abbrev z_67:=@Tryz.sizeOf67
abbrev i_:=@Tryz.sizeOf69
abbrev z_9:=@Tryz.sizeOf9
abbrev q_:=@Tryz.underlying22
abbrev b_2:=@Tryz.underlying24
abbrev p_:=@Tryz.underlying29
abbrev d_3:=@Tryz.underlying3
abbrev J_:=@Tryz.underlying35
abbrev a_o:=@Tryz.underlying42
abbrev d_5:=@Tryz.underlying5
abbrev a_N:=@Tryz.underlying67
abbrev e_9:=@Tryz.underlying81
abbrev d_84:=@Tryz.underlying84
abbrev d_86:=@Tryz.underlying86
abbrev d_9:=@Tryz.underlying9
theorem g_t (w:World):(zeroValue 26).run Tryz.prog w = .ok (.agg #[(.slice none 0 0)]) w:=Tryz.zeroValue26 w
theorem c_C (w:World):(zeroValue 37).run Tryz.prog w = .ok (.agg #[(.slice none 0 0)]) w:=Tryz.zeroValue37 w
theorem L_ (w:World):(zeroValue 44).run Tryz.prog w = .ok (.agg #[(.int .i64 0),.slice none 0 0,(.slice none 0 0)]) w:=Tryz.zeroValue44 w
theorem b_g (w:World):(zeroValue 69).run Tryz.prog w = .ok (.agg #[(Str.v ⟨[]⟩),.int .i64 0,.int .i64 0,.bool false,.slice none 0 0,.slice none 0 0,.slice none 0 0,(.slice none 0 0)]) w:=Tryz.zeroValue69 w
theorem s_8 (w:World):(zeroValue 84).run Tryz.prog w = .ok (.pointer none) w:=Tryz.zeroValue84 w
theorem zero_9 (w:World):(zeroValue 9).run Tryz.prog w = .ok (Str.v ⟨[]⟩) w:=Tryz.zeroValue9 w
end Go.Vw
