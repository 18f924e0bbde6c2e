import Derived.Test.YtfdcdeahjejlmaaGreatDoorVqData
import Derived.Test.YtfdcdeahjejlmaaGreatDoorVqFun
import Derived.Test.YtfdcdeahjejlmaaGreatDoorProg
set_option linter.unusedVariables false
namespace Go.Vw
open Go.RowKit Dat Go.Proofs
theorem mo : Tryz.prog.follows .mixedOrders = true := by kernel_rfl
abbrev g_108 := @Tryz.isAgg108
abbrev g_110 := @Tryz.isAgg110
abbrev g_116 := @Tryz.isAgg116
abbrev x_ := @Tryz.isAgg118
abbrev G_ := @Tryz.isAgg142
abbrev N_ := @Tryz.isAgg144
abbrev g_151 := @Tryz.isAgg151
abbrev g_162 := @Tryz.isAgg162
abbrev g_22 := @Tryz.isAgg22
abbrev g_24 := @Tryz.isAgg24
abbrev J_ := @Tryz.isAgg25
abbrev g_27 := @Tryz.isAgg27
abbrev g_29 := @Tryz.isAgg29
abbrev g_3 := @Tryz.isAgg3
abbrev b_G := @Tryz.isAgg32
abbrev d_k := @Tryz.isAgg34
abbrev c_Q := @Tryz.isAgg35
abbrev c_p := @Tryz.isAgg37
abbrev g_4 := @Tryz.isAgg4
abbrev b_M := @Tryz.isAgg41
abbrev g_5 := @Tryz.isAgg5
abbrev c_q := @Tryz.isAgg63
abbrev a_H := @Tryz.isAgg76
abbrev g_9 := @Tryz.isAgg9
abbrev a_o := @Tryz.isAgg93
abbrev P_ := @Tryz.isAgg95
theorem Q_ : d_r Tryz.prog 118 [(.int .i64 0), (.slice none 0 0), (.slice none 0 0)] [(0, 1), (1, 1), (2, 1)] := ⟨fun w => Tryz.zeroValue118 w, _, Tryz.underlying118, fun w => by simp [Tryz.sizeOf116, Tryz.sizeOf25, Tryz.sizeOf3]⟩
theorem i_h : d_r Tryz.prog 129 [] [] := ⟨fun w => Tryz.zeroValue129 w, _, Tryz.underlying129, fun w => by simp []⟩
theorem n_E : d_r Tryz.prog 157 [(.slice none 0 0), (.slice none 0 0)] [(0, 1), (1, 1)] := ⟨fun w => Tryz.zeroValue157 w, _, Tryz.underlying157, fun w => by simp [Tryz.sizeOf25, Tryz.sizeOf95]⟩
theorem n_F : d_r Tryz.prog 166 [(.int .i64 0), (.int .i64 0)] [(0, 1), (1, 1)] := ⟨fun w => Tryz.zeroValue166 w, _, Tryz.underlying166, fun w => by simp [Tryz.sizeOf3]⟩
theorem g_V : d_r Tryz.prog 63 [(Str.v ⟨[]⟩), (.int .i64 0), (.slice none 0 0)] [(0, 1), (1, 1), (2, 1)] := ⟨fun w => Tryz.zeroValue63 w, _, Tryz.underlying63, fun w => by simp [Tryz.sizeOf25, Tryz.sizeOf3, Tryz.sizeOf9]⟩
theorem c_r : d_r Tryz.prog 76 [(.int .i64 0), (Str.v ⟨[]⟩), (.int .i64 0), (.slice none 0 0)] [(0, 1), (1, 1), (2, 1), (3, 1)] := ⟨fun w => Tryz.zeroValue76 w, _, Tryz.underlying76, fun w => by simp [Tryz.sizeOf25, Tryz.sizeOf3, Tryz.sizeOf9]⟩
theorem g_W : El Tryz.prog 116 118 3 56 (.agg #[(.int .i64 0), (.slice none 0 0), (.slice none 0 0)]) := ⟨Tryz.underlying116, by kernel_rfl, rfl, by decide, by decide⟩
theorem i_i : El Tryz.prog 142 3 1 8 (.int .i64 0) := ⟨Tryz.underlying142, by kernel_rfl, rfl, by decide, by decide⟩
theorem D_ : El Tryz.prog 25 5 1 1 (.int .u8 0) := ⟨Tryz.underlying25, by kernel_rfl, rfl, by decide, by decide⟩
theorem el_32 : El Tryz.prog 32 95 1 24 (.agg #[(.slice none 0 0)]) := ⟨Tryz.underlying32, by kernel_rfl, rfl, by decide, by decide⟩
theorem d_M : El Tryz.prog 41 9 1 16 (Str.v ⟨[]⟩) := ⟨Tryz.underlying41, by kernel_rfl, rfl, by decide, by decide⟩
theorem b_q : El Tryz.prog 59 63 3 48 (.agg #[(Str.v ⟨[]⟩), (.int .i64 0), (.slice none 0 0)]) := ⟨Tryz.underlying59, by kernel_rfl, rfl, by decide, by decide⟩
theorem e_j : El Tryz.prog 89 76 4 56 (.agg #[(.int .i64 0), (Str.v ⟨[]⟩), (.int .i64 0), (.slice none 0 0)]) := ⟨Tryz.underlying89, by kernel_rfl, rfl, by decide, by decide⟩
theorem el_93 : El Tryz.prog 93 144 8 136 (.agg #[(Str.v ⟨[]⟩), (.int .i64 0), (.int .i64 0), (.bool false), (.slice none 0 0), (.slice none 0 0), (.slice none 0 0), (.slice none 0 0)]) := ⟨Tryz.underlying93, by kernel_rfl, rfl, by decide, by decide⟩
theorem k_x : Fld Tryz.prog 110 0 0 := ⟨_, _, Tryz.underlying110, rfl, rfl, 1, fun w => Tryz.sizeOf108 w, by decide⟩
theorem n_G : Fld Tryz.prog 118 0 0 := ⟨_, _, Tryz.underlying118, rfl, rfl, 1, fun w => Tryz.sizeOf3 w, by decide⟩
theorem g_X : Fld Tryz.prog 118 2 2 := ⟨_, _, Tryz.underlying118, rfl, rfl, 1, fun w => Tryz.sizeOf116 w, by decide⟩
theorem c_s : Fld Tryz.prog 144 0 0 := ⟨_, _, Tryz.underlying144, rfl, rfl, 1, fun w => Tryz.sizeOf9 w, by decide⟩
theorem b_x : Fld Tryz.prog 144 1 1 := ⟨_, _, Tryz.underlying144, rfl, rfl, 1, fun w => Tryz.sizeOf3 w, by decide⟩
theorem a_D : Fld Tryz.prog 144 2 2 := ⟨_, _, Tryz.underlying144, rfl, rfl, 1, fun w => Tryz.sizeOf3 w, by decide⟩
theorem c_t : Fld Tryz.prog 144 3 3 := ⟨_, _, Tryz.underlying144, rfl, rfl, 1, fun w => Tryz.sizeOf4 w, by decide⟩
theorem a_R : Fld Tryz.prog 144 4 4 := ⟨_, _, Tryz.underlying144, rfl, rfl, 1, fun w => Tryz.sizeOf25 w, by decide⟩
theorem c_4 : Fld Tryz.prog 144 5 5 := ⟨_, _, Tryz.underlying144, rfl, rfl, 1, fun w => Tryz.sizeOf41 w, by decide⟩
theorem a_O : Fld Tryz.prog 144 6 6 := ⟨_, _, Tryz.underlying144, rfl, rfl, 1, fun w => Tryz.sizeOf142 w, by decide⟩
theorem a_8 : Fld Tryz.prog 144 7 7 := ⟨_, _, Tryz.underlying144, rfl, rfl, 1, fun w => Tryz.sizeOf142 w, by decide⟩
theorem k_y : Fld Tryz.prog 151 0 0 := ⟨_, _, Tryz.underlying151, rfl, rfl, 1, fun w => Tryz.sizeOf9 w, by decide⟩
theorem n_H : Fld Tryz.prog 151 1 1 := ⟨_, _, Tryz.underlying151, rfl, rfl, 1, fun w => Tryz.sizeOf3 w, by decide⟩
theorem n_I : Fld Tryz.prog 151 2 2 := ⟨_, _, Tryz.underlying151, rfl, rfl, 1, fun w => Tryz.sizeOf3 w, by decide⟩
theorem n_J : Fld Tryz.prog 151 3 3 := ⟨_, _, Tryz.underlying151, rfl, rfl, 1, fun w => Tryz.sizeOf4 w, by decide⟩
theorem k_z : Fld Tryz.prog 151 4 4 := ⟨_, _, Tryz.underlying151, rfl, rfl, 1, fun w => Tryz.sizeOf25 w, by decide⟩
theorem k_A : Fld Tryz.prog 151 5 5 := ⟨_, _, Tryz.underlying151, rfl, rfl, 1, fun w => Tryz.sizeOf41 w, by decide⟩
theorem k_B : Fld Tryz.prog 151 6 6 := ⟨_, _, Tryz.underlying151, rfl, rfl, 1, fun w => Tryz.sizeOf142 w, by decide⟩
theorem k_C : Fld Tryz.prog 151 7 7 := ⟨_, _, Tryz.underlying151, rfl, rfl, 1, fun w => Tryz.sizeOf142 w, by decide⟩
theorem k_D : Fld Tryz.prog 157 0 0 := ⟨_, _, Tryz.underlying157, rfl, rfl, 1, fun w => Tryz.sizeOf95 w, by decide⟩
theorem e_k : Fld Tryz.prog 157 1 1 := ⟨_, _, Tryz.underlying157, rfl, rfl, 1, fun w => Tryz.sizeOf25 w, by decide⟩
theorem n_K : Fld Tryz.prog 166 0 0 := ⟨_, _, Tryz.underlying166, rfl, rfl, 1, fun w => Tryz.sizeOf3 w, by decide⟩
theorem n_L : Fld Tryz.prog 166 1 1 := ⟨_, _, Tryz.underlying166, rfl, rfl, 1, fun w => Tryz.sizeOf3 w, by decide⟩
theorem k_E : Fld Tryz.prog 24 0 0 := ⟨_, _, Tryz.underlying24, rfl, rfl, 1, fun w => Tryz.sizeOf22 w, by decide⟩
theorem k_F : Fld Tryz.prog 27 0 0 := ⟨_, _, Tryz.underlying27, rfl, rfl, 1, fun w => Tryz.sizeOf25 w, by decide⟩
theorem f_27_1 : Fld Tryz.prog 27 1 1 := ⟨_, _, Tryz.underlying27, rfl, rfl, 1, fun w => Tryz.sizeOf3 w, by decide⟩
theorem k_G : Fld Tryz.prog 29 0 0 := ⟨_, _, Tryz.underlying29, rfl, rfl, 1, fun w => Tryz.sizeOf24 w, by decide⟩
theorem k_H : Fld Tryz.prog 29 1 1 := ⟨_, _, Tryz.underlying29, rfl, rfl, 2, fun w => Tryz.sizeOf27 w, by decide⟩
theorem b_y : Fld Tryz.prog 34 0 0 := ⟨_, _, Tryz.underlying34, rfl, rfl, 1, fun w => Tryz.sizeOf32 w, by decide⟩
theorem b_h : Fld Tryz.prog 35 0 0 := ⟨_, _, Tryz.underlying35, rfl, rfl, 1, fun w => Tryz.sizeOf25 w, by decide⟩
theorem c_R : Fld Tryz.prog 35 1 1 := ⟨_, _, Tryz.underlying35, rfl, rfl, 1, fun w => Tryz.sizeOf3 w, by decide⟩
theorem c_u : Fld Tryz.prog 37 0 0 := ⟨_, _, Tryz.underlying37, rfl, rfl, 1, fun w => Tryz.sizeOf34 w, by decide⟩
theorem b_H : Fld Tryz.prog 37 1 1 := ⟨_, _, Tryz.underlying37, rfl, rfl, 2, fun w => Tryz.sizeOf35 w, by decide⟩
theorem g_Y : Fld Tryz.prog 63 0 0 := ⟨_, _, Tryz.underlying63, rfl, rfl, 1, fun w => Tryz.sizeOf9 w, by decide⟩
theorem k_I : Fld Tryz.prog 63 1 1 := ⟨_, _, Tryz.underlying63, rfl, rfl, 1, fun w => Tryz.sizeOf3 w, by decide⟩
theorem k_J : Fld Tryz.prog 63 2 2 := ⟨_, _, Tryz.underlying63, rfl, rfl, 1, fun w => Tryz.sizeOf25 w, by decide⟩
theorem b_N : Fld Tryz.prog 76 0 0 := ⟨_, _, Tryz.underlying76, rfl, rfl, 1, fun w => Tryz.sizeOf3 w, by decide⟩
theorem c_v : Fld Tryz.prog 76 1 1 := ⟨_, _, Tryz.underlying76, rfl, rfl, 1, fun w => Tryz.sizeOf9 w, by decide⟩
theorem b_O : Fld Tryz.prog 76 2 2 := ⟨_, _, Tryz.underlying76, rfl, rfl, 1, fun w => Tryz.sizeOf3 w, by decide⟩
theorem c_w : Fld Tryz.prog 76 3 3 := ⟨_, _, Tryz.underlying76, rfl, rfl, 1, fun w => Tryz.sizeOf25 w, by decide⟩
theorem a_j : Fld Tryz.prog 95 0 0 := ⟨_, _, Tryz.underlying95, rfl, rfl, 1, fun w => Tryz.sizeOf93 w, by decide⟩
abbrev g_Z := @Tryz.sizeOf110
abbrev z_116 := @Tryz.sizeOf116
abbrev i_ := @Tryz.sizeOf118
abbrev z_142 := @Tryz.sizeOf142
abbrev t_ := @Tryz.sizeOf144
abbrev h_0 := @Tryz.sizeOf151
abbrev z_24 := @Tryz.sizeOf24
abbrev z_25 := @Tryz.sizeOf25
abbrev z_27 := @Tryz.sizeOf27
abbrev z_29 := @Tryz.sizeOf29
abbrev z_3 := @Tryz.sizeOf3
abbrev z_32 := @Tryz.sizeOf32
abbrev c_x := @Tryz.sizeOf34
abbrev c_5 := @Tryz.sizeOf35
abbrev b_P := @Tryz.sizeOf37
abbrev z_4 := @Tryz.sizeOf4
abbrev z_41 := @Tryz.sizeOf41
abbrev z_5 := @Tryz.sizeOf5
abbrev a_s := @Tryz.sizeOf63
abbrev T_ := @Tryz.sizeOf76
abbrev z_9 := @Tryz.sizeOf9
abbrev z_93 := @Tryz.sizeOf93
abbrev F_ := @Tryz.sizeOf95
abbrev d_l := @Tryz.underlying108
abbrev i_j := @Tryz.underlying129
abbrev B_ := @Tryz.underlying142
abbrev c_S := @Tryz.underlying159
abbrev d_162 := @Tryz.underlying162
abbrev d_164 := @Tryz.underlying164
abbrev d_m := @Tryz.underlying22
abbrev h_ := @Tryz.underlying25
abbrev d_3 := @Tryz.underlying3
abbrev a_S := @Tryz.underlying32
abbrev d_4 := @Tryz.underlying4
abbrev a_1 := @Tryz.underlying41
abbrev d_5 := @Tryz.underlying5
abbrev b_c := @Tryz.underlying59
abbrev b_I := @Tryz.underlying89
abbrev d_9 := @Tryz.underlying9
abbrev X_ := @Tryz.underlying93
theorem a_9 (w : World) : (zeroValue 118).run Tryz.prog w = .ok (.agg #[(.int .i64 0), (.slice none 0 0), (.slice none 0 0)]) w := Tryz.zeroValue118 w
theorem c_T (w : World) : (zeroValue 144).run Tryz.prog w = .ok (.agg #[(Str.v ⟨[]⟩), (.int .i64 0), (.int .i64 0), (.bool false), (.slice none 0 0), (.slice none 0 0), (.slice none 0 0), (.slice none 0 0)]) w := Tryz.zeroValue144 w
theorem n_M (w : World) : (zeroValue 162).run Tryz.prog w = .ok (.pointer none) w := Tryz.zeroValue162 w
theorem k_K (w : World) : (zeroValue 34).run Tryz.prog w = .ok (.agg #[(.slice none 0 0)]) w := Tryz.zeroValue34 w
theorem k_L (w : World) : (zeroValue 35).run Tryz.prog w = .ok (.agg #[(.slice none 0 0), (.int .i64 0)]) w := Tryz.zeroValue35 w
theorem i_k (w : World) : (zeroValue 37).run Tryz.prog w = .ok (.agg #[(.slice none 0 0), (.slice none 0 0), (.int .i64 0)]) w := Tryz.zeroValue37 w
theorem e_l (w : World) : (zeroValue 63).run Tryz.prog w = .ok (.agg #[(Str.v ⟨[]⟩), (.int .i64 0), (.slice none 0 0)]) w := Tryz.zeroValue63 w
theorem c_U (w : World) : (zeroValue 76).run Tryz.prog w = .ok (.agg #[(.int .i64 0), (Str.v ⟨[]⟩), (.int .i64 0), (.slice none 0 0)]) w := Tryz.zeroValue76 w
theorem i_l (w : World) : (zeroValue 95).run Tryz.prog w = .ok (.agg #[(.slice none 0 0)]) w := Tryz.zeroValue95 w
end Go.Vw
