
import Derived.Test.YthlifogbkgdggaaGreatDoorVmA
import Derived.Test.YthlifogbkgdggaaGreatDoorProg
set_option linter.unusedVariables false
namespace Go.Vw
open Go.RowKit Dat Go.Proofs
theorem mo:Tryz.prog.follows .mixedOrders=true:=by kernel_rfl
abbrev Q_:=@Tryz.isAgg22
abbrev R_:=@Tryz.isAgg24
abbrev s_:=@Tryz.isAgg26
abbrev g_3:=@Tryz.isAgg3
abbrev c_F:=@Tryz.isAgg30
abbrev g_4:=@Tryz.isAgg4
abbrev d_c:=@Tryz.isAgg47
abbrev Z_:=@Tryz.isAgg49
abbrev g_5:=@Tryz.isAgg5
abbrev b_Q:=@Tryz.isAgg56
abbrev z_:=@Tryz.isAgg57
abbrev I_:=@Tryz.isAgg59
abbrev g_68:=@Tryz.isAgg68
abbrev a_3:=@Tryz.isAgg81
abbrev g_9:=@Tryz.isAgg9
abbrev g_96:=@Tryz.isAgg96
theorem n_S:b_V Tryz.prog 105 [(.int .i64 0)] [(0,1)]:=⟨fun w=>Tryz.zeroValue105 w,_,Tryz.underlying105,fun w=>by simp [Tryz.sizeOf3]⟩
theorem n_T:b_V Tryz.prog 114 [(.slice none 0 0),.slice none 0 0,(.int .i64 0)] [(0,1),(1,1),(2,1)]:=⟨fun w=>Tryz.zeroValue114 w,_,Tryz.underlying114,fun w=>by simp [Tryz.sizeOf22,Tryz.sizeOf26,Tryz.sizeOf3]⟩
theorem n_U:b_V Tryz.prog 26 [(.slice none 0 0)] [(0,1)]:=⟨fun w=>Tryz.zeroValue26 w,_,Tryz.underlying26,fun w=>by simp [Tryz.sizeOf24]⟩
theorem k_t:b_V Tryz.prog 30 [(.int .i64 0),.int .i64 0,Str.v ⟨[]⟩,(.int .i64 0)] [(0,1),(1,1),(2,1),(3,1)]:=⟨fun w=>Tryz.zeroValue30 w,_,Tryz.underlying30,fun w=>by simp [Tryz.sizeOf3,Tryz.sizeOf9]⟩
theorem n_V:b_V Tryz.prog 45 [(.slice none 0 0),.slice none 0 0,Str.v ⟨[]⟩,(.int .i64 0)] [(0,1),(1,1),(2,1),(3,1)]:=⟨fun w=>Tryz.zeroValue45 w,_,Tryz.underlying45,fun w=>by simp [Tryz.sizeOf22,Tryz.sizeOf26,Tryz.sizeOf3,Tryz.sizeOf9]⟩
theorem a_M:b_V Tryz.prog 49 [(.int .i64 0),.slice none 0 0,(.slice none 0 0)] [(0,1),(1,1),(2,1)]:=⟨fun w=>Tryz.zeroValue49 w,_,Tryz.underlying49,fun w=>by simp [Tryz.sizeOf22,Tryz.sizeOf3,Tryz.sizeOf47]⟩
theorem n_W:b_V Tryz.prog 59 [(Str.v ⟨[]⟩),.int .i64 0,.int .i64 0,.bool false,.slice none 0 0,.slice none 0 0,.slice none 0 0,(.slice none 0 0)] [(0,1),(1,1),(2,1),(3,1),(4,1),(5,1),(6,1),(7,1)]:=⟨fun w=>Tryz.zeroValue59 w,_,Tryz.underlying59,fun w=>by simp [Tryz.sizeOf22,Tryz.sizeOf3,Tryz.sizeOf4,Tryz.sizeOf56,Tryz.sizeOf57,Tryz.sizeOf9]⟩
theorem n_X:b_V Tryz.prog 71 [(.slice none 0 0),.int .i64 0,(.int .i64 0)] [(0,1),(1,1),(2,1)]:=⟨fun w=>Tryz.zeroValue71 w,_,Tryz.underlying71,fun w=>by simp [Tryz.sizeOf22,Tryz.sizeOf3]⟩
theorem b_w:b_V Tryz.prog 81 [(.int .i64 0),(.int .i64 0)] [(0,1),(1,1)]:=⟨fun w=>Tryz.zeroValue81 w,_,Tryz.underlying81,fun w=>by simp [Tryz.sizeOf3]⟩
theorem S_:El Tryz.prog 22 5 1 1 (.int .u8 0):=⟨Tryz.underlying22,by kernel_rfl,rfl,by decide,by decide⟩
theorem h_5:El Tryz.prog 24 59 8 136 (.agg #[(Str.v ⟨[]⟩),.int .i64 0,.int .i64 0,.bool false,.slice none 0 0,.slice none 0 0,.slice none 0 0,(.slice none 0 0)]):=⟨Tryz.underlying24,by kernel_rfl,rfl,by decide,by decide⟩
theorem el_38:El Tryz.prog 38 22 1 24 (.slice none 0 0):=⟨Tryz.underlying38,by kernel_rfl,rfl,by decide,by decide⟩
theorem c_G:El Tryz.prog 47 49 3 56 (.agg #[(.int .i64 0),.slice none 0 0,(.slice none 0 0)]):=⟨Tryz.underlying47,by kernel_rfl,rfl,by decide,by decide⟩
theorem b_R:El Tryz.prog 56 9 1 16 (Str.v ⟨[]⟩):=⟨Tryz.underlying56,by kernel_rfl,rfl,by decide,by decide⟩
theorem b_0:El Tryz.prog 57 3 1 8 (.int .i64 0):=⟨Tryz.underlying57,by kernel_rfl,rfl,by decide,by decide⟩
theorem eqa_30:EqA Tryz.prog 30 (fun x:a_n=>Value.agg #[vI x.code,vI x.position,x.path.v,vI x.rule]):=⟨fun x y=>⟨_,_,_,rfl,rfl,Tryz.underlying30,(show decide (x=y)=((x.code==y.code) && ((x.position==y.position) && ((x.path.b==y.path.b) && ((x.rule==y.rule) && true)))) from Bool.eq_iff_iff.2 (by cases x;cases y;simp [Str.beq_dec])) ▸ (.cons rfl Tryz.isAgg3 rfl rfl (.int Tryz.underlying3)<|.cons rfl Tryz.isAgg3 rfl rfl (.int Tryz.underlying3)<|.cons rfl Tryz.isAgg9 rfl rfl (.str Tryz.underlying9)<|.cons rfl Tryz.isAgg3 rfl rfl (.int Tryz.underlying3) .nil)⟩,by kernel_rfl,by kernel_rfl⟩
theorem eqa_81:EqA Tryz.prog 81 (fun x:D_=>Value.agg #[vI x.at_,vI x.code]):=⟨fun x y=>⟨_,_,_,rfl,rfl,Tryz.underlying81,(show decide (x=y)=((x.at_==y.at_) && ((x.code==y.code) && true)) from Bool.eq_iff_iff.2 (by cases x;cases y;simp [Str.beq_dec])) ▸ (.cons rfl Tryz.isAgg3 rfl rfl (.int Tryz.underlying3)<|.cons rfl Tryz.isAgg3 rfl rfl (.int Tryz.underlying3) .nil)⟩,by kernel_rfl,by kernel_rfl⟩
theorem k_u:Fld Tryz.prog 114 0 0:=⟨_,_,Tryz.underlying114,rfl,rfl,1,fun w=>Tryz.sizeOf26 w,by decide⟩
theorem c_H:Fld Tryz.prog 114 1 1:=⟨_,_,Tryz.underlying114,rfl,rfl,1,fun w=>Tryz.sizeOf22 w,by decide⟩
theorem h_6:Fld Tryz.prog 114 2 2:=⟨_,_,Tryz.underlying114,rfl,rfl,1,fun w=>Tryz.sizeOf3 w,by decide⟩
theorem N_:Fld Tryz.prog 26 0 0:=⟨_,_,Tryz.underlying26,rfl,rfl,1,fun w=>Tryz.sizeOf24 w,by decide⟩
theorem d_E:Fld Tryz.prog 30 0 0:=⟨_,_,Tryz.underlying30,rfl,rfl,1,fun w=>Tryz.sizeOf3 w,by decide⟩
theorem i_s:Fld Tryz.prog 30 1 1:=⟨_,_,Tryz.underlying30,rfl,rfl,1,fun w=>Tryz.sizeOf3 w,by decide⟩
theorem e_j:Fld Tryz.prog 30 2 2:=⟨_,_,Tryz.underlying30,rfl,rfl,1,fun w=>Tryz.sizeOf9 w,by decide⟩
theorem b_G:Fld Tryz.prog 30 3 3:=⟨_,_,Tryz.underlying30,rfl,rfl,1,fun w=>Tryz.sizeOf3 w,by decide⟩
theorem f_l:Fld Tryz.prog 45 0 0:=⟨_,_,Tryz.underlying45,rfl,rfl,1,fun w=>Tryz.sizeOf26 w,by decide⟩
theorem f_m:Fld Tryz.prog 45 1 1:=⟨_,_,Tryz.underlying45,rfl,rfl,1,fun w=>Tryz.sizeOf22 w,by decide⟩
theorem k_v:Fld Tryz.prog 45 2 2:=⟨_,_,Tryz.underlying45,rfl,rfl,1,fun w=>Tryz.sizeOf9 w,by decide⟩
theorem k_w:Fld Tryz.prog 45 3 3:=⟨_,_,Tryz.underlying45,rfl,rfl,1,fun w=>Tryz.sizeOf3 w,by decide⟩
theorem e_k:Fld Tryz.prog 49 0 0:=⟨_,_,Tryz.underlying49,rfl,rfl,1,fun w=>Tryz.sizeOf3 w,by decide⟩
theorem b_S:Fld Tryz.prog 49 1 1:=⟨_,_,Tryz.underlying49,rfl,rfl,1,fun w=>Tryz.sizeOf22 w,by decide⟩
theorem b_x:Fld Tryz.prog 49 2 2:=⟨_,_,Tryz.underlying49,rfl,rfl,1,fun w=>Tryz.sizeOf47 w,by decide⟩
theorem d_d:Fld Tryz.prog 59 0 0:=⟨_,_,Tryz.underlying59,rfl,rfl,1,fun w=>Tryz.sizeOf9 w,by decide⟩
theorem a_i:Fld Tryz.prog 59 1 1:=⟨_,_,Tryz.underlying59,rfl,rfl,1,fun w=>Tryz.sizeOf3 w,by decide⟩
theorem a_z:Fld Tryz.prog 59 2 2:=⟨_,_,Tryz.underlying59,rfl,rfl,1,fun w=>Tryz.sizeOf3 w,by decide⟩
theorem c_q:Fld Tryz.prog 59 3 3:=⟨_,_,Tryz.underlying59,rfl,rfl,1,fun w=>Tryz.sizeOf4 w,by decide⟩
theorem a_D:Fld Tryz.prog 59 4 4:=⟨_,_,Tryz.underlying59,rfl,rfl,1,fun w=>Tryz.sizeOf22 w,by decide⟩
theorem b_H:Fld Tryz.prog 59 5 5:=⟨_,_,Tryz.underlying59,rfl,rfl,1,fun w=>Tryz.sizeOf56 w,by decide⟩
theorem a_r:Fld Tryz.prog 59 6 6:=⟨_,_,Tryz.underlying59,rfl,rfl,1,fun w=>Tryz.sizeOf57 w,by decide⟩
theorem K_:Fld Tryz.prog 59 7 7:=⟨_,_,Tryz.underlying59,rfl,rfl,1,fun w=>Tryz.sizeOf57 w,by decide⟩
theorem k_x:Fld Tryz.prog 71 0 0:=⟨_,_,Tryz.underlying71,rfl,rfl,1,fun w=>Tryz.sizeOf22 w,by decide⟩
theorem h_7:Fld Tryz.prog 71 1 1:=⟨_,_,Tryz.underlying71,rfl,rfl,1,fun w=>Tryz.sizeOf3 w,by decide⟩
theorem h_8:Fld Tryz.prog 71 2 2:=⟨_,_,Tryz.underlying71,rfl,rfl,1,fun w=>Tryz.sizeOf3 w,by decide⟩
theorem c_8:Fld Tryz.prog 81 0 0:=⟨_,_,Tryz.underlying81,rfl,rfl,1,fun w=>Tryz.sizeOf3 w,by decide⟩
theorem c_r:Fld Tryz.prog 81 1 1:=⟨_,_,Tryz.underlying81,rfl,rfl,1,fun w=>Tryz.sizeOf3 w,by decide⟩
abbrev z_22:=@Tryz.sizeOf22
abbrev z_24:=@Tryz.sizeOf24
abbrev p_:=@Tryz.sizeOf26
abbrev z_3:=@Tryz.sizeOf3
abbrev b_y:=@Tryz.sizeOf30
abbrev z_4:=@Tryz.sizeOf4
abbrev e_l:=@Tryz.sizeOf47
abbrev t_:=@Tryz.sizeOf49
abbrev z_5:=@Tryz.sizeOf5
abbrev z_56:=@Tryz.sizeOf56
abbrev d_F:=@Tryz.sizeOf57
abbrev k_:=@Tryz.sizeOf59
abbrev A_:=@Tryz.sizeOf81
abbrev z_9:=@Tryz.sizeOf9
abbrev z_96:=@Tryz.sizeOf96
abbrev l_:=@Tryz.underlying22
abbrev P_:=@Tryz.underlying24
abbrev d_3:=@Tryz.underlying3
abbrev d_38:=@Tryz.underlying38
abbrev d_4:=@Tryz.underlying4
abbrev d_47:=@Tryz.underlying47
abbrev d_5:=@Tryz.underlying5
abbrev a_k:=@Tryz.underlying56
abbrev q_:=@Tryz.underlying57
abbrev d_9:=@Tryz.underlying9
abbrev d_e:=@Tryz.underlying96
theorem e_m (w:World):(zeroValue 26).run Tryz.prog w = .ok (.agg #[(.slice none 0 0)]) w:=Tryz.zeroValue26 w
theorem k_y (w:World):(zeroValue 3).run Tryz.prog w = .ok (.int .i64 0) w:=Tryz.zeroValue3 w
theorem f_n (w:World):(zeroValue 30).run Tryz.prog w = .ok (.agg #[(.int .i64 0),.int .i64 0,Str.v ⟨[]⟩,(.int .i64 0)]) w:=Tryz.zeroValue30 w
theorem a_N (w:World):(zeroValue 49).run Tryz.prog w = .ok (.agg #[(.int .i64 0),.slice none 0 0,(.slice none 0 0)]) w:=Tryz.zeroValue49 w
theorem b_h (w:World):(zeroValue 59).run Tryz.prog w = .ok (.agg #[(Str.v ⟨[]⟩),.int .i64 0,.int .i64 0,.bool false,.slice none 0 0,.slice none 0 0,.slice none 0 0,(.slice none 0 0)]) w:=Tryz.zeroValue59 w
theorem b_5 (w:World):(zeroValue 81).run Tryz.prog w = .ok (.agg #[(.int .i64 0),(.int .i64 0)]) w:=Tryz.zeroValue81 w
theorem k_z (w:World):(zeroValue 96).run Tryz.prog w = .ok (.agg #[(.int .i64 0),.int .i64 0,.int .i64 0,.int .i64 0,.int .i64 0,.int .i64 0,.int .i64 0,.int .i64 0,.int .i64 0,.int .i64 0,.int .i64 0,.int .i64 0,.int .i64 0,.int .i64 0,.int .i64 0,.int .i64 0,.int .i64 0,.int .i64 0,.int .i64 0,.int .i64 0,.int .i64 0,.int .i64 0,.int .i64 0,(.int .i64 0)]) w:=Tryz.zeroValue96 w
end Go.Vw
