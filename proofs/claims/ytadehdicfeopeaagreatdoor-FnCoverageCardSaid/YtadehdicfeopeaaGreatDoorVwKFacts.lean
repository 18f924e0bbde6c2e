
import Derived.Test.YtadehdicfeopeaaGreatDoorVmA
import Derived.Test.YtadehdicfeopeaaGreatDoorProg
set_option linter.unusedVariables false
namespace Go.Vw
open Go.RowKit Dat Go.Proofs
theorem mo:Tryz.prog.follows .mixedOrders=true:=by kernel_rfl
abbrev g_102:=@Tryz.isAgg102
abbrev a_h:=@Tryz.isAgg159
abbrev P_:=@Tryz.isAgg22
abbrev T_:=@Tryz.isAgg24
abbrev t_:=@Tryz.isAgg26
abbrev g_27:=@Tryz.isAgg27
abbrev g_3:=@Tryz.isAgg3
abbrev D_:=@Tryz.isAgg30
abbrev c_h:=@Tryz.isAgg33
abbrev I_:=@Tryz.isAgg37
abbrev g_4:=@Tryz.isAgg4
abbrev a_P:=@Tryz.isAgg45
abbrev y_:=@Tryz.isAgg47
abbrev g_5:=@Tryz.isAgg5
abbrev e_F:=@Tryz.isAgg54
abbrev g_63:=@Tryz.isAgg63
abbrev g_9:=@Tryz.isAgg9
theorem n_V:c_1 Tryz.prog 106 [(.int .i64 0),(.int .i64 0)] [(0,1),(1,1)]:=⟨fun w=>Tryz.zeroValue106 w,_,Tryz.underlying106,fun w=>by simp [Tryz.sizeOf3]⟩
theorem n_W:c_1 Tryz.prog 157 [(.slice none 0 0),.slice none 0 0,(.int .i64 0)] [(0,1),(1,1),(2,1)]:=⟨fun w=>Tryz.zeroValue157 w,_,Tryz.underlying157,fun w=>by simp [Tryz.sizeOf22,Tryz.sizeOf26,Tryz.sizeOf3]⟩
theorem c_i:c_1 Tryz.prog 159 [(.int .i64 0),(.int .i64 0)] [(0,1),(1,1)]:=⟨fun w=>Tryz.zeroValue159 w,_,Tryz.underlying159,fun w=>by simp [Tryz.sizeOf3]⟩
theorem n_X:c_1 Tryz.prog 26 [(.slice none 0 0)] [(0,1)]:=⟨fun w=>Tryz.zeroValue26 w,_,Tryz.underlying26,fun w=>by simp [Tryz.sizeOf24]⟩
theorem n_Y:c_1 Tryz.prog 37 [(Str.v ⟨[]⟩),.int .i64 0,.int .i64 0,.bool false,.slice none 0 0,.slice none 0 0,.slice none 0 0,(.slice none 0 0)] [(0,1),(1,1),(2,1),(3,1),(4,1),(5,1),(6,1),(7,1)]:=⟨fun w=>Tryz.zeroValue37 w,_,Tryz.underlying37,fun w=>by simp [Tryz.sizeOf22,Tryz.sizeOf3,Tryz.sizeOf30,Tryz.sizeOf33,Tryz.sizeOf4,Tryz.sizeOf9]⟩
theorem Y_:c_1 Tryz.prog 47 [(.int .i64 0),.slice none 0 0,(.slice none 0 0)] [(0,1),(1,1),(2,1)]:=⟨fun w=>Tryz.zeroValue47 w,_,Tryz.underlying47,fun w=>by simp [Tryz.sizeOf22,Tryz.sizeOf3,Tryz.sizeOf45]⟩
theorem e_G:c_1 Tryz.prog 54 [(Str.v ⟨[]⟩),.int .i64 0,.int .i64 0,(.int .i64 0)] [(0,1),(1,1),(2,1),(3,1)]:=⟨fun w=>Tryz.zeroValue54 w,_,Tryz.underlying54,fun w=>by simp [Tryz.sizeOf3,Tryz.sizeOf9]⟩
theorem n_Z:c_1 Tryz.prog 63 [(.int .i64 0),(.int .i64 0)] [(0,1),(1,1)]:=⟨fun w=>Tryz.zeroValue63 w,_,Tryz.underlying63,fun w=>by simp [Tryz.sizeOf3]⟩
theorem o_0:c_1 Tryz.prog 68 [(.slice none 0 0),.int .i64 0,(.int .i64 0)] [(0,1),(1,1),(2,1)]:=⟨fun w=>Tryz.zeroValue68 w,_,Tryz.underlying68,fun w=>by simp [Tryz.sizeOf22,Tryz.sizeOf3]⟩
theorem o_1:c_1 Tryz.prog 87 [(.slice none 0 0),.slice none 0 0,(.slice none 0 0)] [(0,1),(1,1),(2,1)]:=⟨fun w=>Tryz.zeroValue87 w,_,Tryz.underlying87,fun w=>by simp [Tryz.sizeOf22,Tryz.sizeOf26,Tryz.sizeOf27]⟩
theorem o_2:c_1 Tryz.prog 97 [(.slice none 0 0),(.slice none 0 0)] [(0,1),(1,1)]:=⟨fun w=>Tryz.zeroValue97 w,_,Tryz.underlying97,fun w=>by simp [Tryz.sizeOf22,Tryz.sizeOf26]⟩
theorem a_9:El Tryz.prog 22 5 1 1 (.int .u8 0):=⟨Tryz.underlying22,by kernel_rfl,rfl,by decide,by decide⟩
theorem h_S:El Tryz.prog 24 37 8 136 (.agg #[(Str.v ⟨[]⟩),.int .i64 0,.int .i64 0,.bool false,.slice none 0 0,.slice none 0 0,.slice none 0 0,(.slice none 0 0)]):=⟨Tryz.underlying24,by kernel_rfl,rfl,by decide,by decide⟩
theorem e_H:El Tryz.prog 27 54 4 40 (.agg #[(Str.v ⟨[]⟩),.int .i64 0,.int .i64 0,(.int .i64 0)]):=⟨Tryz.underlying27,by kernel_rfl,rfl,by decide,by decide⟩
theorem a_Y:El Tryz.prog 30 3 1 8 (.int .i64 0):=⟨Tryz.underlying30,by kernel_rfl,rfl,by decide,by decide⟩
theorem b_o:El Tryz.prog 33 9 1 16 (Str.v ⟨[]⟩):=⟨Tryz.underlying33,by kernel_rfl,rfl,by decide,by decide⟩
theorem b_V:El Tryz.prog 45 47 3 56 (.agg #[(.int .i64 0),.slice none 0 0,(.slice none 0 0)]):=⟨Tryz.underlying45,by kernel_rfl,rfl,by decide,by decide⟩
theorem o_3:Fld Tryz.prog 106 0 0:=⟨_,_,Tryz.underlying106,rfl,rfl,1,fun w=>Tryz.sizeOf3 w,by decide⟩
theorem o_4:Fld Tryz.prog 106 1 1:=⟨_,_,Tryz.underlying106,rfl,rfl,1,fun w=>Tryz.sizeOf3 w,by decide⟩
theorem k_P:Fld Tryz.prog 157 0 0:=⟨_,_,Tryz.underlying157,rfl,rfl,1,fun w=>Tryz.sizeOf26 w,by decide⟩
theorem d_7:Fld Tryz.prog 157 1 1:=⟨_,_,Tryz.underlying157,rfl,rfl,1,fun w=>Tryz.sizeOf22 w,by decide⟩
theorem h_T:Fld Tryz.prog 157 2 2:=⟨_,_,Tryz.underlying157,rfl,rfl,1,fun w=>Tryz.sizeOf3 w,by decide⟩
theorem c_w:Fld Tryz.prog 159 0 0:=⟨_,_,Tryz.underlying159,rfl,rfl,1,fun w=>Tryz.sizeOf3 w,by decide⟩
theorem c_J:Fld Tryz.prog 159 1 1:=⟨_,_,Tryz.underlying159,rfl,rfl,1,fun w=>Tryz.sizeOf3 w,by decide⟩
theorem R_:Fld Tryz.prog 26 0 0:=⟨_,_,Tryz.underlying26,rfl,rfl,1,fun w=>Tryz.sizeOf24 w,by decide⟩
theorem c_K:Fld Tryz.prog 37 0 0:=⟨_,_,Tryz.underlying37,rfl,rfl,1,fun w=>Tryz.sizeOf9 w,by decide⟩
theorem a_n:Fld Tryz.prog 37 1 1:=⟨_,_,Tryz.underlying37,rfl,rfl,1,fun w=>Tryz.sizeOf3 w,by decide⟩
theorem a_z:Fld Tryz.prog 37 2 2:=⟨_,_,Tryz.underlying37,rfl,rfl,1,fun w=>Tryz.sizeOf3 w,by decide⟩
theorem c_L:Fld Tryz.prog 37 3 3:=⟨_,_,Tryz.underlying37,rfl,rfl,1,fun w=>Tryz.sizeOf4 w,by decide⟩
theorem a_R:Fld Tryz.prog 37 4 4:=⟨_,_,Tryz.underlying37,rfl,rfl,1,fun w=>Tryz.sizeOf22 w,by decide⟩
theorem c_2:Fld Tryz.prog 37 5 5:=⟨_,_,Tryz.underlying37,rfl,rfl,1,fun w=>Tryz.sizeOf33 w,by decide⟩
theorem a_S:Fld Tryz.prog 37 6 6:=⟨_,_,Tryz.underlying37,rfl,rfl,1,fun w=>Tryz.sizeOf30 w,by decide⟩
theorem J_:Fld Tryz.prog 37 7 7:=⟨_,_,Tryz.underlying37,rfl,rfl,1,fun w=>Tryz.sizeOf30 w,by decide⟩
theorem b_3:Fld Tryz.prog 47 0 0:=⟨_,_,Tryz.underlying47,rfl,rfl,1,fun w=>Tryz.sizeOf3 w,by decide⟩
theorem b_4:Fld Tryz.prog 47 1 1:=⟨_,_,Tryz.underlying47,rfl,rfl,1,fun w=>Tryz.sizeOf22 w,by decide⟩
theorem a_q:Fld Tryz.prog 47 2 2:=⟨_,_,Tryz.underlying47,rfl,rfl,1,fun w=>Tryz.sizeOf45 w,by decide⟩
theorem f_54_0:Fld Tryz.prog 54 0 0:=⟨_,_,Tryz.underlying54,rfl,rfl,1,fun w=>Tryz.sizeOf9 w,by decide⟩
theorem e_6:Fld Tryz.prog 54 1 1:=⟨_,_,Tryz.underlying54,rfl,rfl,1,fun w=>Tryz.sizeOf3 w,by decide⟩
theorem k_Q:Fld Tryz.prog 54 2 2:=⟨_,_,Tryz.underlying54,rfl,rfl,1,fun w=>Tryz.sizeOf3 w,by decide⟩
theorem f_54_3:Fld Tryz.prog 54 3 3:=⟨_,_,Tryz.underlying54,rfl,rfl,1,fun w=>Tryz.sizeOf3 w,by decide⟩
theorem k_R:Fld Tryz.prog 68 0 0:=⟨_,_,Tryz.underlying68,rfl,rfl,1,fun w=>Tryz.sizeOf22 w,by decide⟩
theorem h_U:Fld Tryz.prog 68 1 1:=⟨_,_,Tryz.underlying68,rfl,rfl,1,fun w=>Tryz.sizeOf3 w,by decide⟩
theorem h_V:Fld Tryz.prog 68 2 2:=⟨_,_,Tryz.underlying68,rfl,rfl,1,fun w=>Tryz.sizeOf3 w,by decide⟩
theorem f_I:Fld Tryz.prog 87 0 0:=⟨_,_,Tryz.underlying87,rfl,rfl,1,fun w=>Tryz.sizeOf26 w,by decide⟩
theorem f_87_1:Fld Tryz.prog 87 1 1:=⟨_,_,Tryz.underlying87,rfl,rfl,1,fun w=>Tryz.sizeOf22 w,by decide⟩
theorem f_J:Fld Tryz.prog 87 2 2:=⟨_,_,Tryz.underlying87,rfl,rfl,1,fun w=>Tryz.sizeOf27 w,by decide⟩
theorem k_S:Fld Tryz.prog 97 0 0:=⟨_,_,Tryz.underlying97,rfl,rfl,1,fun w=>Tryz.sizeOf26 w,by decide⟩
theorem e_I:Fld Tryz.prog 97 1 1:=⟨_,_,Tryz.underlying97,rfl,rfl,1,fun w=>Tryz.sizeOf22 w,by decide⟩
def e_J (x:a_F):Value:=.agg #[vI x.rule,vI x.tag]
def e_K (x:a_F):Prop:=inI x.rule/\inI x.tag
theorem k_T:MapT Tryz.prog 59 e_J e_K:=o_w (fa:=fun x=>x.rule) (fb:=fun x=>x.tag) (fun _=>rfl) (fun _ h=>h) (fun x y h1 h2=>by cases x;cases y;simp_all) Tryz.underlying59 (fun w=>Tryz.zeroValue4 w) (by kernel_rfl) Tryz.underlying63 Tryz.underlying3 Tryz.underlying3 rfl (by kernel_rfl) (by kernel_rfl) (Nat.le_of_ble_eq_true (by kernel_rfl)) (by kernel_rfl) (by kernel_rfl) (by kernel_rfl) rfl rfl (m:=235) (by kernel_rfl)
abbrev H_:=@Tryz.sizeOf159
abbrev z_22:=@Tryz.sizeOf22
abbrev z_24:=@Tryz.sizeOf24
abbrev q_:=@Tryz.sizeOf26
abbrev z_27:=@Tryz.sizeOf27
abbrev z_3:=@Tryz.sizeOf3
abbrev e_7:=@Tryz.sizeOf30
abbrev z_33:=@Tryz.sizeOf33
abbrev m_:=@Tryz.sizeOf37
abbrev z_4:=@Tryz.sizeOf4
abbrev d_z:=@Tryz.sizeOf45
abbrev i_:=@Tryz.sizeOf47
abbrev z_5:=@Tryz.sizeOf5
abbrev b_p:=@Tryz.sizeOf54
abbrev z_63:=@Tryz.sizeOf63
abbrev z_9:=@Tryz.sizeOf9
abbrev d_102:=@Tryz.underlying102
abbrev d_104:=@Tryz.underlying104
abbrev p_:=@Tryz.underlying22
abbrev U_:=@Tryz.underlying24
abbrev c_j:=@Tryz.underlying27
abbrev d_3:=@Tryz.underlying3
abbrev o_:=@Tryz.underlying30
abbrev a_j:=@Tryz.underlying33
abbrev d_4:=@Tryz.underlying4
abbrev b_5:=@Tryz.underlying45
abbrev d_5:=@Tryz.underlying5
abbrev d_9:=@Tryz.underlying9
abbrev d_92:=@Tryz.underlying92
abbrev d_8:=@Tryz.underlying99
theorem o_5 (w:World):(zeroValue 102).run Tryz.prog w = .ok (.pointer none) w:=Tryz.zeroValue102 w
theorem b_u (w:World):(zeroValue 159).run Tryz.prog w = .ok (.agg #[(.int .i64 0),(.int .i64 0)]) w:=Tryz.zeroValue159 w
theorem f_K (w:World):(zeroValue 26).run Tryz.prog w = .ok (.agg #[(.slice none 0 0)]) w:=Tryz.zeroValue26 w
theorem b_g (w:World):(zeroValue 37).run Tryz.prog w = .ok (.agg #[(Str.v ⟨[]⟩),.int .i64 0,.int .i64 0,.bool false,.slice none 0 0,.slice none 0 0,.slice none 0 0,(.slice none 0 0)]) w:=Tryz.zeroValue37 w
theorem a_6 (w:World):(zeroValue 47).run Tryz.prog w = .ok (.agg #[(.int .i64 0),.slice none 0 0,(.slice none 0 0)]) w:=Tryz.zeroValue47 w
theorem h_W (w:World):(zeroValue 54).run Tryz.prog w = .ok (.agg #[(Str.v ⟨[]⟩),.int .i64 0,.int .i64 0,(.int .i64 0)]) w:=Tryz.zeroValue54 w
theorem o_6 (w:World):(zeroValue 63).run Tryz.prog w = .ok (.agg #[(.int .i64 0),(.int .i64 0)]) w:=Tryz.zeroValue63 w
theorem o_7 (w:World):(zeroValue 92).run Tryz.prog w = .ok (.agg #[(.bool false),.bool false,.bool false,.bool false,.bool false,.bool false,.bool false,.bool false,.bool false,.bool false,.bool false,.bool false,.bool false,.bool false,.bool false,.bool false,.bool false,.bool false,.bool false,.bool false,.bool false,.bool false,.bool false,(.bool false)]) w:=Tryz.zeroValue92 w
end Go.Vw
