
import Derived.Test.YtajhmimbhplkfaaGreatDoorVmA
import Derived.Test.YtajhmimbhplkfaaGreatDoorProg
set_option linter.unusedVariables false
namespace Go.Vw
open Go.RowKit Dat Go.Proofs
theorem mo:Tryz.prog.follows .mixedOrders=true:=by kernel_rfl
abbrev Q_:=@Tryz.isAgg22
abbrev g_226:=@Tryz.isAgg226
abbrev a_c:=@Tryz.isAgg235
abbrev a_0:=@Tryz.isAgg24
abbrev y_:=@Tryz.isAgg26
abbrev g_3:=@Tryz.isAgg3
abbrev b_N:=@Tryz.isAgg33
abbrev g_36:=@Tryz.isAgg36
abbrev g_4:=@Tryz.isAgg4
abbrev a_F:=@Tryz.isAgg46
abbrev u_:=@Tryz.isAgg48
abbrev g_5:=@Tryz.isAgg5
abbrev b_Z:=@Tryz.isAgg51
abbrev B_:=@Tryz.isAgg52
abbrev J_:=@Tryz.isAgg54
abbrev g_9:=@Tryz.isAgg9
theorem n_4:b_X Tryz.prog 136 [(.slice none 0 0),.slice none 0 0,(.slice none 0 0)] [(0,1),(1,1),(2,1)]:=⟨fun w=>Tryz.zeroValue136 w,_,Tryz.underlying136,fun w=>by simp [Tryz.sizeOf22,Tryz.sizeOf26,Tryz.sizeOf36]⟩
theorem n_5:b_X Tryz.prog 144 [(.slice none 0 0),.int .i64 0,(.int .i64 0)] [(0,1),(1,1),(2,1)]:=⟨fun w=>Tryz.zeroValue144 w,_,Tryz.underlying144,fun w=>by simp [Tryz.sizeOf22,Tryz.sizeOf3]⟩
theorem n_6:b_X Tryz.prog 221 [(.slice none 0 0),(.slice none 0 0)] [(0,1),(1,1)]:=⟨fun w=>Tryz.zeroValue221 w,_,Tryz.underlying221,fun w=>by simp [Tryz.sizeOf22,Tryz.sizeOf26]⟩
theorem n_7:b_X Tryz.prog 230 [(.int .i64 0),(.int .i64 0)] [(0,1),(1,1)]:=⟨fun w=>Tryz.zeroValue230 w,_,Tryz.underlying230,fun w=>by simp [Tryz.sizeOf3]⟩
theorem n_8:b_X Tryz.prog 233 [(.slice none 0 0),.slice none 0 0,(.int .i64 0)] [(0,1),(1,1),(2,1)]:=⟨fun w=>Tryz.zeroValue233 w,_,Tryz.underlying233,fun w=>by simp [Tryz.sizeOf22,Tryz.sizeOf26,Tryz.sizeOf3]⟩
theorem c_0:b_X Tryz.prog 235 [(.int .i64 0),(.int .i64 0)] [(0,1),(1,1)]:=⟨fun w=>Tryz.zeroValue235 w,_,Tryz.underlying235,fun w=>by simp [Tryz.sizeOf3]⟩
theorem n_9:b_X Tryz.prog 26 [(.slice none 0 0)] [(0,1)]:=⟨fun w=>Tryz.zeroValue26 w,_,Tryz.underlying26,fun w=>by simp [Tryz.sizeOf24]⟩
theorem k_4:b_X Tryz.prog 33 [(Str.v ⟨[]⟩),.int .i64 0,.int .i64 0,(.int .i64 0)] [(0,1),(1,1),(2,1),(3,1)]:=⟨fun w=>Tryz.zeroValue33 w,_,Tryz.underlying33,fun w=>by simp [Tryz.sizeOf3,Tryz.sizeOf9]⟩
theorem W_:b_X Tryz.prog 48 [(.int .i64 0),.slice none 0 0,(.slice none 0 0)] [(0,1),(1,1),(2,1)]:=⟨fun w=>Tryz.zeroValue48 w,_,Tryz.underlying48,fun w=>by simp [Tryz.sizeOf22,Tryz.sizeOf3,Tryz.sizeOf46]⟩
theorem n_a:b_X Tryz.prog 54 [(Str.v ⟨[]⟩),.int .i64 0,.int .i64 0,.bool false,.slice none 0 0,.slice none 0 0,.slice none 0 0,(.slice none 0 0)] [(0,1),(1,1),(2,1),(3,1),(4,1),(5,1),(6,1),(7,1)]:=⟨fun w=>Tryz.zeroValue54 w,_,Tryz.underlying54,fun w=>by simp [Tryz.sizeOf22,Tryz.sizeOf3,Tryz.sizeOf4,Tryz.sizeOf51,Tryz.sizeOf52,Tryz.sizeOf9]⟩
theorem R_:El Tryz.prog 22 5 1 1 (.int .u8 0):=⟨Tryz.underlying22,by kernel_rfl,rfl,by decide,by decide⟩
theorem g_v:El Tryz.prog 24 54 8 136 (.agg #[(Str.v ⟨[]⟩),.int .i64 0,.int .i64 0,.bool false,.slice none 0 0,.slice none 0 0,.slice none 0 0,(.slice none 0 0)]):=⟨Tryz.underlying24,by kernel_rfl,rfl,by decide,by decide⟩
theorem b_O:El Tryz.prog 36 33 4 40 (.agg #[(Str.v ⟨[]⟩),.int .i64 0,.int .i64 0,(.int .i64 0)]):=⟨Tryz.underlying36,by kernel_rfl,rfl,by decide,by decide⟩
theorem b_E:El Tryz.prog 46 48 3 56 (.agg #[(.int .i64 0),.slice none 0 0,(.slice none 0 0)]):=⟨Tryz.underlying46,by kernel_rfl,rfl,by decide,by decide⟩
theorem g_w:El Tryz.prog 51 9 1 16 (Str.v ⟨[]⟩):=⟨Tryz.underlying51,by kernel_rfl,rfl,by decide,by decide⟩
theorem b_q:El Tryz.prog 52 3 1 8 (.int .i64 0):=⟨Tryz.underlying52,by kernel_rfl,rfl,by decide,by decide⟩
theorem k_5:EqA Tryz.prog 33 (fun x:e_=>Value.agg #[x.path.v,vI x.rule,vI x.start,vI x.end_]):=⟨fun x y=>⟨_,_,_,rfl,rfl,Tryz.underlying33,(show decide (x=y)=((x.path.b==y.path.b) && ((x.rule==y.rule) && ((x.start==y.start) && ((x.end_==y.end_) && true)))) from Bool.eq_iff_iff.2 (by cases x;cases y;simp [Str.beq_dec])) ▸ (.cons rfl Tryz.isAgg9 rfl rfl (.str Tryz.underlying9)<|.cons rfl Tryz.isAgg3 rfl rfl (.int Tryz.underlying3)<|.cons rfl Tryz.isAgg3 rfl rfl (.int Tryz.underlying3)<|.cons rfl Tryz.isAgg3 rfl rfl (.int Tryz.underlying3) .nil)⟩,by kernel_rfl,by kernel_rfl⟩
theorem e_T:Fld Tryz.prog 136 0 0:=⟨_,_,Tryz.underlying136,rfl,rfl,1,fun w=>Tryz.sizeOf26 w,by decide⟩
theorem n_b:Fld Tryz.prog 136 1 1:=⟨_,_,Tryz.underlying136,rfl,rfl,1,fun w=>Tryz.sizeOf22 w,by decide⟩
theorem e_U:Fld Tryz.prog 136 2 2:=⟨_,_,Tryz.underlying136,rfl,rfl,1,fun w=>Tryz.sizeOf36 w,by decide⟩
theorem k_6:Fld Tryz.prog 144 0 0:=⟨_,_,Tryz.underlying144,rfl,rfl,1,fun w=>Tryz.sizeOf22 w,by decide⟩
theorem g_x:Fld Tryz.prog 144 1 1:=⟨_,_,Tryz.underlying144,rfl,rfl,1,fun w=>Tryz.sizeOf3 w,by decide⟩
theorem g_y:Fld Tryz.prog 144 2 2:=⟨_,_,Tryz.underlying144,rfl,rfl,1,fun w=>Tryz.sizeOf3 w,by decide⟩
theorem k_7:Fld Tryz.prog 221 0 0:=⟨_,_,Tryz.underlying221,rfl,rfl,1,fun w=>Tryz.sizeOf26 w,by decide⟩
theorem e_4:Fld Tryz.prog 221 1 1:=⟨_,_,Tryz.underlying221,rfl,rfl,1,fun w=>Tryz.sizeOf22 w,by decide⟩
theorem n_c:Fld Tryz.prog 230 0 0:=⟨_,_,Tryz.underlying230,rfl,rfl,1,fun w=>Tryz.sizeOf3 w,by decide⟩
theorem n_d:Fld Tryz.prog 230 1 1:=⟨_,_,Tryz.underlying230,rfl,rfl,1,fun w=>Tryz.sizeOf3 w,by decide⟩
theorem k_8:Fld Tryz.prog 233 0 0:=⟨_,_,Tryz.underlying233,rfl,rfl,1,fun w=>Tryz.sizeOf26 w,by decide⟩
theorem c_G:Fld Tryz.prog 233 1 1:=⟨_,_,Tryz.underlying233,rfl,rfl,1,fun w=>Tryz.sizeOf22 w,by decide⟩
theorem g_z:Fld Tryz.prog 233 2 2:=⟨_,_,Tryz.underlying233,rfl,rfl,1,fun w=>Tryz.sizeOf3 w,by decide⟩
theorem c_d:Fld Tryz.prog 235 0 0:=⟨_,_,Tryz.underlying235,rfl,rfl,1,fun w=>Tryz.sizeOf3 w,by decide⟩
theorem c_q:Fld Tryz.prog 235 1 1:=⟨_,_,Tryz.underlying235,rfl,rfl,1,fun w=>Tryz.sizeOf3 w,by decide⟩
theorem X_:Fld Tryz.prog 26 0 0:=⟨_,_,Tryz.underlying26,rfl,rfl,1,fun w=>Tryz.sizeOf24 w,by decide⟩
theorem k_9:Fld Tryz.prog 33 0 0:=⟨_,_,Tryz.underlying33,rfl,rfl,1,fun w=>Tryz.sizeOf9 w,by decide⟩
theorem k_a:Fld Tryz.prog 33 2 2:=⟨_,_,Tryz.underlying33,rfl,rfl,1,fun w=>Tryz.sizeOf3 w,by decide⟩
theorem e_V:Fld Tryz.prog 33 3 3:=⟨_,_,Tryz.underlying33,rfl,rfl,1,fun w=>Tryz.sizeOf3 w,by decide⟩
theorem b_c:Fld Tryz.prog 48 0 0:=⟨_,_,Tryz.underlying48,rfl,rfl,1,fun w=>Tryz.sizeOf3 w,by decide⟩
theorem a_T:Fld Tryz.prog 48 1 1:=⟨_,_,Tryz.underlying48,rfl,rfl,1,fun w=>Tryz.sizeOf22 w,by decide⟩
theorem a_j:Fld Tryz.prog 48 2 2:=⟨_,_,Tryz.underlying48,rfl,rfl,1,fun w=>Tryz.sizeOf46 w,by decide⟩
theorem e_5:Fld Tryz.prog 54 0 0:=⟨_,_,Tryz.underlying54,rfl,rfl,1,fun w=>Tryz.sizeOf9 w,by decide⟩
theorem a_x:Fld Tryz.prog 54 1 1:=⟨_,_,Tryz.underlying54,rfl,rfl,1,fun w=>Tryz.sizeOf3 w,by decide⟩
theorem a_t:Fld Tryz.prog 54 2 2:=⟨_,_,Tryz.underlying54,rfl,rfl,1,fun w=>Tryz.sizeOf3 w,by decide⟩
theorem c_r:Fld Tryz.prog 54 3 3:=⟨_,_,Tryz.underlying54,rfl,rfl,1,fun w=>Tryz.sizeOf4 w,by decide⟩
theorem a_K:Fld Tryz.prog 54 4 4:=⟨_,_,Tryz.underlying54,rfl,rfl,1,fun w=>Tryz.sizeOf22 w,by decide⟩
theorem b_P:Fld Tryz.prog 54 5 5:=⟨_,_,Tryz.underlying54,rfl,rfl,1,fun w=>Tryz.sizeOf51 w,by decide⟩
theorem a_L:Fld Tryz.prog 54 6 6:=⟨_,_,Tryz.underlying54,rfl,rfl,1,fun w=>Tryz.sizeOf52 w,by decide⟩
theorem K_:Fld Tryz.prog 54 7 7:=⟨_,_,Tryz.underlying54,rfl,rfl,1,fun w=>Tryz.sizeOf52 w,by decide⟩
def e_6 (x:e_):Value:=.agg #[x.path.v,vI x.rule,vI x.start,vI x.end_]
def e_7 (x:e_):Prop:=x.path.b.length≤LEN∧inI x.rule∧inI x.start∧inI x.end_
theorem i_d:MapT Tryz.prog 142 e_6 e_7:=l_Q (fs:=fun x=>x.path) (fa:=fun x=>x.rule) (fb:=fun x=>x.start) (fc:=fun x=>x.end_) (fun _=>rfl) (fun _ h=>h) (fun x y h0 h1 h2 h3=>by cases x;cases y;simp_all) Tryz.underlying142 (fun w=>Tryz.zeroValue4 w) (by kernel_rfl) Tryz.underlying33 Tryz.underlying9 Tryz.underlying3 Tryz.underlying3 Tryz.underlying3 rfl (by kernel_rfl) (by kernel_rfl) (Nat.le_of_ble_eq_true (by kernel_rfl)) (by kernel_rfl) (by kernel_rfl) (by kernel_rfl) (by kernel_rfl) (by kernel_rfl) rfl rfl rfl rfl (m:=356) (by kernel_rfl)
abbrev z_22:=@Tryz.sizeOf22
abbrev G_:=@Tryz.sizeOf235
abbrev z_24:=@Tryz.sizeOf24
abbrev t_:=@Tryz.sizeOf26
abbrev z_3:=@Tryz.sizeOf3
abbrev a_o:=@Tryz.sizeOf33
abbrev z_36:=@Tryz.sizeOf36
abbrev z_4:=@Tryz.sizeOf4
abbrev d_0:=@Tryz.sizeOf46
abbrev i_:=@Tryz.sizeOf48
abbrev z_5:=@Tryz.sizeOf5
abbrev z_51:=@Tryz.sizeOf51
abbrev d_y:=@Tryz.sizeOf52
abbrev p_:=@Tryz.sizeOf54
abbrev z_9:=@Tryz.sizeOf9
abbrev n_:=@Tryz.underlying22
abbrev c_H:=@Tryz.underlying223
abbrev d_226:=@Tryz.underlying226
abbrev d_228:=@Tryz.underlying228
abbrev a_1:=@Tryz.underlying24
abbrev d_3:=@Tryz.underlying3
abbrev a_k:=@Tryz.underlying36
abbrev d_4:=@Tryz.underlying4
abbrev a_U:=@Tryz.underlying46
abbrev d_5:=@Tryz.underlying5
abbrev a_N:=@Tryz.underlying51
abbrev w_:=@Tryz.underlying52
abbrev d_9:=@Tryz.underlying9
theorem n_e (w:World):(zeroValue 226).run Tryz.prog w = .ok (.pointer none) w:=Tryz.zeroValue226 w
theorem b_h (w:World):(zeroValue 235).run Tryz.prog w = .ok (.agg #[(.int .i64 0),(.int .i64 0)]) w:=Tryz.zeroValue235 w
theorem d_z (w:World):(zeroValue 26).run Tryz.prog w = .ok (.agg #[(.slice none 0 0)]) w:=Tryz.zeroValue26 w
theorem g_A (w:World):(zeroValue 33).run Tryz.prog w = .ok (.agg #[(Str.v ⟨[]⟩),.int .i64 0,.int .i64 0,(.int .i64 0)]) w:=Tryz.zeroValue33 w
theorem a_b (w:World):(zeroValue 48).run Tryz.prog w = .ok (.agg #[(.int .i64 0),.slice none 0 0,(.slice none 0 0)]) w:=Tryz.zeroValue48 w
theorem b_i (w:World):(zeroValue 54).run Tryz.prog w = .ok (.agg #[(Str.v ⟨[]⟩),.int .i64 0,.int .i64 0,.bool false,.slice none 0 0,.slice none 0 0,.slice none 0 0,(.slice none 0 0)]) w:=Tryz.zeroValue54 w
end Go.Vw
