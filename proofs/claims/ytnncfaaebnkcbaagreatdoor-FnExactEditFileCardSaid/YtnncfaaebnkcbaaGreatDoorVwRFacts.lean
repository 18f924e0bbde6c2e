
import Derived.Test.YtnncfaaebnkcbaaGreatDoorVmA
import Derived.Test.YtnncfaaebnkcbaaGreatDoorProg
set_option linter.unusedVariables false
namespace Go.Vw
open Go.RowKit Dat Go.Proofs
theorem mo:Tryz.prog.follows .mixedOrders=true:=by kernel_rfl
abbrev g_102:=@Tryz.isAgg102
abbrev c_r:=@Tryz.isAgg110
abbrev g_22:=@Tryz.isAgg22
abbrev g_24:=@Tryz.isAgg24
abbrev F_:=@Tryz.isAgg25
abbrev g_26:=@Tryz.isAgg26
abbrev e_Z:=@Tryz.isAgg28
abbrev g_3:=@Tryz.isAgg3
abbrev a_g:=@Tryz.isAgg33
abbrev v_:=@Tryz.isAgg35
abbrev a_6:=@Tryz.isAgg38
abbrev g_4:=@Tryz.isAgg4
abbrev l_:=@Tryz.isAgg40
abbrev g_5:=@Tryz.isAgg5
abbrev a_T:=@Tryz.isAgg63
abbrev B_:=@Tryz.isAgg64
abbrev g_66:=@Tryz.isAgg66
abbrev G_:=@Tryz.isAgg77
abbrev g_9:=@Tryz.isAgg9
abbrev g_91:=@Tryz.isAgg91
theorem r_p:f_k Tryz.prog 106 [(.int .i64 0),(.int .i64 0)] [(0,1),(1,1)]:=⟨fun w=>Tryz.zeroValue106 w,_,Tryz.underlying106,fun w=>by simp [Tryz.sizeOf3]⟩
theorem r_q:f_k Tryz.prog 112 [(.slice none 0 0),(.slice none 0 0)] [(0,1),(1,1)]:=⟨fun w=>Tryz.zeroValue112 w,_,Tryz.underlying112,fun w=>by simp [Tryz.sizeOf25,Tryz.sizeOf35]⟩
theorem J_:f_k Tryz.prog 40 [(.int .i64 0),.slice none 0 0,(.slice none 0 0)] [(0,1),(1,1),(2,1)]:=⟨fun w=>Tryz.zeroValue40 w,_,Tryz.underlying40,fun w=>by simp [Tryz.sizeOf25,Tryz.sizeOf3,Tryz.sizeOf38]⟩
theorem r_r:f_k Tryz.prog 97 [(.slice none 0 0),(.slice none 0 0)] [(0,1),(1,1)]:=⟨fun w=>Tryz.zeroValue97 w,_,Tryz.underlying97,fun w=>by simp [Tryz.sizeOf25,Tryz.sizeOf35]⟩
theorem z_:El Tryz.prog 25 5 1 1 (.int .u8 0):=⟨Tryz.underlying25,by kernel_rfl,rfl,by decide,by decide⟩
theorem el_33:El Tryz.prog 33 77 8 136 (.agg #[(Str.v ⟨[]⟩),.int .i64 0,.int .i64 0,.bool false,.slice none 0 0,.slice none 0 0,.slice none 0 0,(.slice none 0 0)]):=⟨Tryz.underlying33,by kernel_rfl,rfl,by decide,by decide⟩
theorem b_t:El Tryz.prog 38 40 3 56 (.agg #[(.int .i64 0),.slice none 0 0,(.slice none 0 0)]):=⟨Tryz.underlying38,by kernel_rfl,rfl,by decide,by decide⟩
theorem b_L:El Tryz.prog 63 9 1 16 (Str.v ⟨[]⟩):=⟨Tryz.underlying63,by kernel_rfl,rfl,by decide,by decide⟩
theorem k_b:El Tryz.prog 64 3 1 8 (.int .i64 0):=⟨Tryz.underlying64,by kernel_rfl,rfl,by decide,by decide⟩
theorem r_s:Fld Tryz.prog 106 0 0:=⟨_,_,Tryz.underlying106,rfl,rfl,1,fun w=>Tryz.sizeOf3 w,by decide⟩
theorem r_t:Fld Tryz.prog 106 1 1:=⟨_,_,Tryz.underlying106,rfl,rfl,1,fun w=>Tryz.sizeOf3 w,by decide⟩
theorem k_c:Fld Tryz.prog 112 0 0:=⟨_,_,Tryz.underlying112,rfl,rfl,1,fun w=>Tryz.sizeOf35 w,by decide⟩
theorem f_D:Fld Tryz.prog 112 1 1:=⟨_,_,Tryz.underlying112,rfl,rfl,1,fun w=>Tryz.sizeOf25 w,by decide⟩
theorem m_X:Fld Tryz.prog 24 0 0:=⟨_,_,Tryz.underlying24,rfl,rfl,1,fun w=>Tryz.sizeOf22 w,by decide⟩
theorem f_28_0:Fld Tryz.prog 28 0 0:=⟨_,_,Tryz.underlying28,rfl,rfl,1,fun w=>Tryz.sizeOf3 w,by decide⟩
theorem m_Y:Fld Tryz.prog 28 1 1:=⟨_,_,Tryz.underlying28,rfl,rfl,1,fun w=>Tryz.sizeOf25 w,by decide⟩
theorem m_Z:Fld Tryz.prog 28 2 2:=⟨_,_,Tryz.underlying28,rfl,rfl,1,fun w=>Tryz.sizeOf26 w,by decide⟩
theorem a_d:Fld Tryz.prog 35 0 0:=⟨_,_,Tryz.underlying35,rfl,rfl,1,fun w=>Tryz.sizeOf33 w,by decide⟩
theorem a_M:Fld Tryz.prog 40 0 0:=⟨_,_,Tryz.underlying40,rfl,rfl,1,fun w=>Tryz.sizeOf3 w,by decide⟩
theorem a_E:Fld Tryz.prog 40 1 1:=⟨_,_,Tryz.underlying40,rfl,rfl,1,fun w=>Tryz.sizeOf25 w,by decide⟩
theorem Y_:Fld Tryz.prog 40 2 2:=⟨_,_,Tryz.underlying40,rfl,rfl,1,fun w=>Tryz.sizeOf38 w,by decide⟩
theorem n_0:Fld Tryz.prog 66 0 0:=⟨_,_,Tryz.underlying66,rfl,rfl,1,fun w=>Tryz.sizeOf9 w,by decide⟩
theorem f_66_1:Fld Tryz.prog 66 1 1:=⟨_,_,Tryz.underlying66,rfl,rfl,1,fun w=>Tryz.sizeOf3 w,by decide⟩
theorem f_66_2:Fld Tryz.prog 66 2 2:=⟨_,_,Tryz.underlying66,rfl,rfl,1,fun w=>Tryz.sizeOf3 w,by decide⟩
theorem f_66_3:Fld Tryz.prog 66 3 3:=⟨_,_,Tryz.underlying66,rfl,rfl,1,fun w=>Tryz.sizeOf4 w,by decide⟩
theorem n_1:Fld Tryz.prog 66 4 4:=⟨_,_,Tryz.underlying66,rfl,rfl,1,fun w=>Tryz.sizeOf25 w,by decide⟩
theorem n_2:Fld Tryz.prog 66 5 5:=⟨_,_,Tryz.underlying66,rfl,rfl,1,fun w=>Tryz.sizeOf63 w,by decide⟩
theorem n_3:Fld Tryz.prog 66 6 6:=⟨_,_,Tryz.underlying66,rfl,rfl,1,fun w=>Tryz.sizeOf64 w,by decide⟩
theorem n_4:Fld Tryz.prog 66 7 7:=⟨_,_,Tryz.underlying66,rfl,rfl,1,fun w=>Tryz.sizeOf64 w,by decide⟩
theorem d_f:Fld Tryz.prog 77 0 0:=⟨_,_,Tryz.underlying77,rfl,rfl,1,fun w=>Tryz.sizeOf9 w,by decide⟩
theorem a_x:Fld Tryz.prog 77 1 1:=⟨_,_,Tryz.underlying77,rfl,rfl,1,fun w=>Tryz.sizeOf3 w,by decide⟩
theorem a_F:Fld Tryz.prog 77 2 2:=⟨_,_,Tryz.underlying77,rfl,rfl,1,fun w=>Tryz.sizeOf3 w,by decide⟩
theorem c_s:Fld Tryz.prog 77 3 3:=⟨_,_,Tryz.underlying77,rfl,rfl,1,fun w=>Tryz.sizeOf4 w,by decide⟩
theorem a_U:Fld Tryz.prog 77 4 4:=⟨_,_,Tryz.underlying77,rfl,rfl,1,fun w=>Tryz.sizeOf25 w,by decide⟩
theorem b_M:Fld Tryz.prog 77 5 5:=⟨_,_,Tryz.underlying77,rfl,rfl,1,fun w=>Tryz.sizeOf63 w,by decide⟩
theorem b_2:Fld Tryz.prog 77 6 6:=⟨_,_,Tryz.underlying77,rfl,rfl,1,fun w=>Tryz.sizeOf64 w,by decide⟩
theorem T_:Fld Tryz.prog 77 7 7:=⟨_,_,Tryz.underlying77,rfl,rfl,1,fun w=>Tryz.sizeOf64 w,by decide⟩
theorem n_5:Fld Tryz.prog 97 0 0:=⟨_,_,Tryz.underlying97,rfl,rfl,1,fun w=>Tryz.sizeOf35 w,by decide⟩
theorem f_E:Fld Tryz.prog 97 1 1:=⟨_,_,Tryz.underlying97,rfl,rfl,1,fun w=>Tryz.sizeOf25 w,by decide⟩
abbrev z_24:=@Tryz.sizeOf24
abbrev z_25:=@Tryz.sizeOf25
abbrev d_y:=@Tryz.sizeOf28
abbrev z_3:=@Tryz.sizeOf3
abbrev z_33:=@Tryz.sizeOf33
abbrev u_:=@Tryz.sizeOf35
abbrev z_38:=@Tryz.sizeOf38
abbrev z_4:=@Tryz.sizeOf4
abbrev c_:=@Tryz.sizeOf40
abbrev z_5:=@Tryz.sizeOf5
abbrev f_0:=@Tryz.sizeOf63
abbrev z_64:=@Tryz.sizeOf64
abbrev z_66:=@Tryz.sizeOf66
abbrev r_:=@Tryz.sizeOf77
abbrev z_9:=@Tryz.sizeOf9
abbrev d_102:=@Tryz.underlying102
abbrev d_104:=@Tryz.underlying104
abbrev e_a:=@Tryz.underlying22
abbrev p_:=@Tryz.underlying25
abbrev e_b:=@Tryz.underlying26
abbrev d_3:=@Tryz.underlying3
abbrev P_:=@Tryz.underlying33
abbrev Z_:=@Tryz.underlying38
abbrev d_4:=@Tryz.underlying4
abbrev d_5:=@Tryz.underlying5
abbrev Q_:=@Tryz.underlying63
abbrev x_:=@Tryz.underlying64
abbrev d_80:=@Tryz.underlying80
abbrev d_9:=@Tryz.underlying9
abbrev d_z:=@Tryz.underlying99
theorem r_u (w:World):(zeroValue 102).run Tryz.prog w = .ok (.pointer none) w:=Tryz.zeroValue102 w
theorem k_d (w:World):(zeroValue 35).run Tryz.prog w = .ok (.agg #[(.slice none 0 0)]) w:=Tryz.zeroValue35 w
theorem zero_4 (w:World):(zeroValue 4).run Tryz.prog w = .ok (.bool false) w:=Tryz.zeroValue4 w
theorem L_ (w:World):(zeroValue 40).run Tryz.prog w = .ok (.agg #[(.int .i64 0),.slice none 0 0,(.slice none 0 0)]) w:=Tryz.zeroValue40 w
theorem n_6 (w:World):(zeroValue 63).run Tryz.prog w = .ok (.slice none 0 0) w:=Tryz.zeroValue63 w
theorem c_8 (w:World):(zeroValue 77).run Tryz.prog w = .ok (.agg #[(Str.v ⟨[]⟩),.int .i64 0,.int .i64 0,.bool false,.slice none 0 0,.slice none 0 0,.slice none 0 0,(.slice none 0 0)]) w:=Tryz.zeroValue77 w
end Go.Vw
