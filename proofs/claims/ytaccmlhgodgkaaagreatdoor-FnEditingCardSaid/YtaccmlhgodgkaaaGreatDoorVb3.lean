
import Derived.Test.YtaccmlhgodgkaaaGreatDoorV0
import Derived.Test.YtaccmlhgodgkaaaGreatDoorProg
set_option linter.unusedVariables false
namespace Go.Vw
open Go.RowKit Dat Go.Proofs
theorem mo:Tryz.prog.follows .mixedOrders=true:=by kernel_rfl
abbrev g_111:=@Tryz.isAgg111
abbrev c_F:=@Tryz.isAgg119
abbrev g_126:=@Tryz.isAgg126
abbrev S_:=@Tryz.isAgg22
abbrev a_6:=@Tryz.isAgg24
abbrev u_:=@Tryz.isAgg26
abbrev Y_:=@Tryz.isAgg27
abbrev j_:=@Tryz.isAgg29
abbrev g_3:=@Tryz.isAgg3
abbrev g_4:=@Tryz.isAgg4
abbrev g_5:=@Tryz.isAgg5
abbrev g_52:=@Tryz.isAgg52
abbrev b_p:=@Tryz.isAgg63
abbrev I_:=@Tryz.isAgg64
abbrev L_:=@Tryz.isAgg66
abbrev g_9:=@Tryz.isAgg9
theorem p_f:d_l Tryz.prog 106 [(.slice none 0 0),(.slice none 0 0)] [(0,1),(1,1)]:=⟨λw=>Tryz.zeroValue106 w,_,Tryz.underlying106,λw=>by simp [Tryz.sizeOf22,Tryz.sizeOf26]⟩
theorem p_g:d_l Tryz.prog 115 [(.int .i64 0),(.int .i64 0)] [(0,1),(1,1)]:=⟨λw=>Tryz.zeroValue115 w,_,Tryz.underlying115,λw=>by simp [Tryz.sizeOf3]⟩
theorem p_h:d_l Tryz.prog 121 [(.slice none 0 0),(.slice none 0 0)] [(0,1),(1,1)]:=⟨λw=>Tryz.zeroValue121 w,_,Tryz.underlying121,λw=>by simp [Tryz.sizeOf22,Tryz.sizeOf26]⟩
theorem p_i:d_l Tryz.prog 26 [(.slice none 0 0)] [(0,1)]:=⟨λw=>Tryz.zeroValue26 w,_,Tryz.underlying26,λw=>by simp [Tryz.sizeOf24]⟩
theorem O_:d_l Tryz.prog 29 [(.int .i64 0),.slice none 0 0,(.slice none 0 0)] [(0,1),(1,1),(2,1)]:=⟨λw=>Tryz.zeroValue29 w,_,Tryz.underlying29,λw=>by simp [Tryz.sizeOf22,Tryz.sizeOf27,Tryz.sizeOf3]⟩
theorem i_R:d_l Tryz.prog 52 [(Str.v ⟨[]⟩),.int .i64 0,.int .i64 0,(.int .i64 0)] [(0,1),(1,1),(2,1),(3,1)]:=⟨λw=>Tryz.zeroValue52 w,_,Tryz.underlying52,λw=>by simp [Tryz.sizeOf3,Tryz.sizeOf9]⟩
theorem p_j:d_l Tryz.prog 57 [(.slice none 0 0),.int .i64 0,(.int .i64 0)] [(0,1),(1,1),(2,1)]:=⟨λw=>Tryz.zeroValue57 w,_,Tryz.underlying57,λw=>by simp [Tryz.sizeOf22,Tryz.sizeOf3]⟩
theorem p_k:d_l Tryz.prog 66 [(Str.v ⟨[]⟩),.int .i64 0,.int .i64 0,.bool false,.slice none 0 0,.slice none 0 0,.slice none 0 0,(.slice none 0 0)] [(0,1),(1,1),(2,1),(3,1),(4,1),(5,1),(6,1),(7,1)]:=⟨λw=>Tryz.zeroValue66 w,_,Tryz.underlying66,λw=>by simp [Tryz.sizeOf22,Tryz.sizeOf3,Tryz.sizeOf4,Tryz.sizeOf63,Tryz.sizeOf64,Tryz.sizeOf9]⟩
theorem F_:El Tryz.prog 22 5 1 1 (.int .u8 0):=⟨Tryz.underlying22,by kernel_rfl,rfl,by decide,by decide⟩
theorem f_W:El Tryz.prog 24 66 8 136 (.agg #[(Str.v ⟨[]⟩),.int .i64 0,.int .i64 0,.bool false,.slice none 0 0,.slice none 0 0,.slice none 0 0,(.slice none 0 0)]):=⟨Tryz.underlying24,by kernel_rfl,rfl,by decide,by decide⟩
theorem b_8:El Tryz.prog 27 29 3 56 (.agg #[(.int .i64 0),.slice none 0 0,(.slice none 0 0)]):=⟨Tryz.underlying27,by kernel_rfl,rfl,by decide,by decide⟩
theorem b_j:El Tryz.prog 63 9 1 16 (Str.v ⟨[]⟩):=⟨Tryz.underlying63,by kernel_rfl,rfl,by decide,by decide⟩
theorem b_w:El Tryz.prog 64 3 1 8 (.int .i64 0):=⟨Tryz.underlying64,by kernel_rfl,rfl,by decide,by decide⟩
theorem l_Z:Fld Tryz.prog 106 0 0:=⟨_,_,Tryz.underlying106,rfl,rfl,1,λw=>Tryz.sizeOf26 w,by decide⟩
theorem f_X:Fld Tryz.prog 106 1 1:=⟨_,_,Tryz.underlying106,rfl,rfl,1,λw=>Tryz.sizeOf22 w,by decide⟩
theorem p_l:Fld Tryz.prog 115 0 0:=⟨_,_,Tryz.underlying115,rfl,rfl,1,λw=>Tryz.sizeOf3 w,by decide⟩
theorem p_m:Fld Tryz.prog 115 1 1:=⟨_,_,Tryz.underlying115,rfl,rfl,1,λw=>Tryz.sizeOf3 w,by decide⟩
theorem k_2:Fld Tryz.prog 121 0 0:=⟨_,_,Tryz.underlying121,rfl,rfl,1,λw=>Tryz.sizeOf26 w,by decide⟩
theorem f_Y:Fld Tryz.prog 121 1 1:=⟨_,_,Tryz.underlying121,rfl,rfl,1,λw=>Tryz.sizeOf22 w,by decide⟩
theorem a_1:Fld Tryz.prog 26 0 0:=⟨_,_,Tryz.underlying26,rfl,rfl,1,λw=>Tryz.sizeOf24 w,by decide⟩
theorem a_W:Fld Tryz.prog 29 0 0:=⟨_,_,Tryz.underlying29,rfl,rfl,1,λw=>Tryz.sizeOf3 w,by decide⟩
theorem a_G:Fld Tryz.prog 29 1 1:=⟨_,_,Tryz.underlying29,rfl,rfl,1,λw=>Tryz.sizeOf22 w,by decide⟩
theorem N_:Fld Tryz.prog 29 2 2:=⟨_,_,Tryz.underlying29,rfl,rfl,1,λw=>Tryz.sizeOf27 w,by decide⟩
theorem f_52_1:Fld Tryz.prog 52 1 1:=⟨_,_,Tryz.underlying52,rfl,rfl,1,λw=>Tryz.sizeOf3 w,by decide⟩
theorem f_52_2:Fld Tryz.prog 52 2 2:=⟨_,_,Tryz.underlying52,rfl,rfl,1,λw=>Tryz.sizeOf3 w,by decide⟩
theorem m_0:Fld Tryz.prog 57 0 0:=⟨_,_,Tryz.underlying57,rfl,rfl,1,λw=>Tryz.sizeOf22 w,by decide⟩
theorem i_S:Fld Tryz.prog 57 1 1:=⟨_,_,Tryz.underlying57,rfl,rfl,1,λw=>Tryz.sizeOf3 w,by decide⟩
theorem i_T:Fld Tryz.prog 57 2 2:=⟨_,_,Tryz.underlying57,rfl,rfl,1,λw=>Tryz.sizeOf3 w,by decide⟩
theorem f_Z:Fld Tryz.prog 66 0 0:=⟨_,_,Tryz.underlying66,rfl,rfl,1,λw=>Tryz.sizeOf9 w,by decide⟩
theorem a_y:Fld Tryz.prog 66 1 1:=⟨_,_,Tryz.underlying66,rfl,rfl,1,λw=>Tryz.sizeOf3 w,by decide⟩
theorem a_M:Fld Tryz.prog 66 2 2:=⟨_,_,Tryz.underlying66,rfl,rfl,1,λw=>Tryz.sizeOf3 w,by decide⟩
theorem d_n:Fld Tryz.prog 66 3 3:=⟨_,_,Tryz.underlying66,rfl,rfl,1,λw=>Tryz.sizeOf4 w,by decide⟩
theorem b_d:Fld Tryz.prog 66 4 4:=⟨_,_,Tryz.underlying66,rfl,rfl,1,λw=>Tryz.sizeOf22 w,by decide⟩
theorem c_k:Fld Tryz.prog 66 5 5:=⟨_,_,Tryz.underlying66,rfl,rfl,1,λw=>Tryz.sizeOf63 w,by decide⟩
theorem b_k:Fld Tryz.prog 66 6 6:=⟨_,_,Tryz.underlying66,rfl,rfl,1,λw=>Tryz.sizeOf64 w,by decide⟩
theorem T_:Fld Tryz.prog 66 7 7:=⟨_,_,Tryz.underlying66,rfl,rfl,1,λw=>Tryz.sizeOf64 w,by decide⟩
abbrev g_0:=@Tryz.sizeOf22
abbrev z_24:=@Tryz.sizeOf24
abbrev s_:=@Tryz.sizeOf26
abbrev c_U:=@Tryz.sizeOf27
abbrev d_:=@Tryz.sizeOf29
abbrev z_3:=@Tryz.sizeOf3
abbrev z_4:=@Tryz.sizeOf4
abbrev z_5:=@Tryz.sizeOf5
abbrev d_N:=@Tryz.sizeOf52
abbrev f_e:=@Tryz.sizeOf63
abbrev f_f:=@Tryz.sizeOf64
abbrev w_:=@Tryz.sizeOf66
abbrev z_9:=@Tryz.sizeOf9
abbrev d_O:=@Tryz.underlying108
abbrev d_111:=@Tryz.underlying111
abbrev d_113:=@Tryz.underlying113
abbrev t_:=@Tryz.underlying22
abbrev a_7:=@Tryz.underlying24
abbrev a_8:=@Tryz.underlying27
abbrev d_3:=@Tryz.underlying3
abbrev d_4:=@Tryz.underlying4
abbrev d_5:=@Tryz.underlying5
abbrev a_d:=@Tryz.underlying63
abbrev H_:=@Tryz.underlying64
abbrev d_73:=@Tryz.underlying73
abbrev d_9:=@Tryz.underlying9
theorem p_n (w:World):(zeroValue 111).run Tryz.prog w = .ok (.pointer none) w:=Tryz.zeroValue111 w
theorem d_P (w:World):(zeroValue 26).run Tryz.prog w = .ok (.agg #[(.slice none 0 0)]) w:=Tryz.zeroValue26 w
theorem J_ (w:World):(zeroValue 29).run Tryz.prog w = .ok (.agg #[(.int .i64 0),.slice none 0 0,(.slice none 0 0)]) w:=Tryz.zeroValue29 w
theorem zero_4 (w:World):(zeroValue 4).run Tryz.prog w = .ok (.bool false) w:=Tryz.zeroValue4 w
theorem m_1 (w:World):(zeroValue 52).run Tryz.prog w = .ok (.agg #[(Str.v ⟨[]⟩),.int .i64 0,.int .i64 0,(.int .i64 0)]) w:=Tryz.zeroValue52 w
theorem m_2 (w:World):(zeroValue 63).run Tryz.prog w = .ok (.slice none 0 0) w:=Tryz.zeroValue63 w
theorem b_T (w:World):(zeroValue 66).run Tryz.prog w = .ok (.agg #[(Str.v ⟨[]⟩),.int .i64 0,.int .i64 0,.bool false,.slice none 0 0,.slice none 0 0,.slice none 0 0,(.slice none 0 0)]) w:=Tryz.zeroValue66 w
end Go.Vw
