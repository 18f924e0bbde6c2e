import Derived.Test.YtfdcdeahjejlmaaGreatDoorVqData
import Derived.Test.YtfdcdeahjejlmaaGreatDoorVqFun
import Derived.Test.YtfdcdeahjejlmaaGreatDoorProg
set_option linter.unusedVariables false
namespace Go.Vw
open Go.RowKit Dat Go.Proofs
theorem mo : Tryz.prog.follows .mixedOrders = true := by kernel_rfl
abbrev g_108 := @Tryz.isAgg108
abbrev g_110 := @Tryz.isAgg110
abbrev g_116 := @Tryz.isAgg116
abbrev x_ := @Tryz.isAgg118
abbrev H_ := @Tryz.isAgg142
abbrev N_ := @Tryz.isAgg144
abbrev g_151 := @Tryz.isAgg151
abbrev g_162 := @Tryz.isAgg162
abbrev g_22 := @Tryz.isAgg22
abbrev g_24 := @Tryz.isAgg24
abbrev K_ := @Tryz.isAgg25
abbrev g_27 := @Tryz.isAgg27
abbrev g_29 := @Tryz.isAgg29
abbrev g_3 := @Tryz.isAgg3
abbrev b_H := @Tryz.isAgg32
abbrev d_C := @Tryz.isAgg34
abbrev d_1 := @Tryz.isAgg35
abbrev c_y := @Tryz.isAgg37
abbrev g_4 := @Tryz.isAgg4
abbrev b_V := @Tryz.isAgg41
abbrev g_5 := @Tryz.isAgg5
abbrev c_z := @Tryz.isAgg63
abbrev a_K := @Tryz.isAgg76
abbrev g_9 := @Tryz.isAgg9
abbrev a_q := @Tryz.isAgg93
abbrev P_ := @Tryz.isAgg95
theorem S_ : d_f Tryz.prog 118 [(.int .i64 0), (.slice none 0 0), (.slice none 0 0)] [(0, 1), (1, 1), (2, 1)] := ⟨fun w => Tryz.zeroValue118 w, _, Tryz.underlying118, fun w => by simp [Tryz.sizeOf116, Tryz.sizeOf25, Tryz.sizeOf3]⟩
theorem j_N : d_f Tryz.prog 129 [] [] := ⟨fun w => Tryz.zeroValue129 w, _, Tryz.underlying129, fun w => by simp []⟩
theorem q_F : d_f Tryz.prog 157 [(.slice none 0 0), (.slice none 0 0)] [(0, 1), (1, 1)] := ⟨fun w => Tryz.zeroValue157 w, _, Tryz.underlying157, fun w => by simp [Tryz.sizeOf25, Tryz.sizeOf95]⟩
theorem q_G : d_f Tryz.prog 166 [(.int .i64 0), (.int .i64 0)] [(0, 1), (1, 1)] := ⟨fun w => Tryz.zeroValue166 w, _, Tryz.underlying166, fun w => by simp [Tryz.sizeOf3]⟩
theorem h_W : d_f Tryz.prog 63 [(Str.v ⟨[]⟩), (.int .i64 0), (.slice none 0 0)] [(0, 1), (1, 1), (2, 1)] := ⟨fun w => Tryz.zeroValue63 w, _, Tryz.underlying63, fun w => by simp [Tryz.sizeOf25, Tryz.sizeOf3, Tryz.sizeOf9]⟩
theorem c_A : d_f Tryz.prog 76 [(.int .i64 0), (Str.v ⟨[]⟩), (.int .i64 0), (.slice none 0 0)] [(0, 1), (1, 1), (2, 1), (3, 1)] := ⟨fun w => Tryz.zeroValue76 w, _, Tryz.underlying76, fun w => by simp [Tryz.sizeOf25, Tryz.sizeOf3, Tryz.sizeOf9]⟩
theorem h_X : El Tryz.prog 116 118 3 56 (.agg #[(.int .i64 0), (.slice none 0 0), (.slice none 0 0)]) := ⟨Tryz.underlying116, by kernel_rfl, rfl, by decide, by decide⟩
theorem j_O : El Tryz.prog 142 3 1 8 (.int .i64 0) := ⟨Tryz.underlying142, by kernel_rfl, rfl, by decide, by decide⟩
theorem B_ : El Tryz.prog 25 5 1 1 (.int .u8 0) := ⟨Tryz.underlying25, by kernel_rfl, rfl, by decide, by decide⟩
theorem el_32 : El Tryz.prog 32 95 1 24 (.agg #[(.slice none 0 0)]) := ⟨Tryz.underlying32, by kernel_rfl, rfl, by decide, by decide⟩
theorem e_7 : El Tryz.prog 41 9 1 16 (Str.v ⟨[]⟩) := ⟨Tryz.underlying41, by kernel_rfl, rfl, by decide, by decide⟩
theorem b_q : El Tryz.prog 59 63 3 48 (.agg #[(Str.v ⟨[]⟩), (.int .i64 0), (.slice none 0 0)]) := ⟨Tryz.underlying59, by kernel_rfl, rfl, by decide, by decide⟩
theorem e_T : El Tryz.prog 89 76 4 56 (.agg #[(.int .i64 0), (Str.v ⟨[]⟩), (.int .i64 0), (.slice none 0 0)]) := ⟨Tryz.underlying89, by kernel_rfl, rfl, by decide, by decide⟩
theorem el_93 : El Tryz.prog 93 144 8 136 (.agg #[(Str.v ⟨[]⟩), (.int .i64 0), (.int .i64 0), (.bool false), (.slice none 0 0), (.slice none 0 0), (.slice none 0 0), (.slice none 0 0)]) := ⟨Tryz.underlying93, by kernel_rfl, rfl, by decide, by decide⟩
theorem m_s : Fld Tryz.prog 110 0 0 := ⟨_, _, Tryz.underlying110, rfl, rfl, 1, fun w => Tryz.sizeOf108 w, by decide⟩
theorem q_H : Fld Tryz.prog 118 0 0 := ⟨_, _, Tryz.underlying118, rfl, rfl, 1, fun w => Tryz.sizeOf3 w, by decide⟩
theorem h_Y : Fld Tryz.prog 118 2 2 := ⟨_, _, Tryz.underlying118, rfl, rfl, 1, fun w => Tryz.sizeOf116 w, by decide⟩
theorem c_B : Fld Tryz.prog 144 0 0 := ⟨_, _, Tryz.underlying144, rfl, rfl, 1, fun w => Tryz.sizeOf9 w, by decide⟩
theorem b_C : Fld Tryz.prog 144 1 1 := ⟨_, _, Tryz.underlying144, rfl, rfl, 1, fun w => Tryz.sizeOf3 w, by decide⟩
theorem a_D : Fld Tryz.prog 144 2 2 := ⟨_, _, Tryz.underlying144, rfl, rfl, 1, fun w => Tryz.sizeOf3 w, by decide⟩
theorem c_C : Fld Tryz.prog 144 3 3 := ⟨_, _, Tryz.underlying144, rfl, rfl, 1, fun w => Tryz.sizeOf4 w, by decide⟩
theorem a_U : Fld Tryz.prog 144 4 4 := ⟨_, _, Tryz.underlying144, rfl, rfl, 1, fun w => Tryz.sizeOf25 w, by decide⟩
theorem c_g : Fld Tryz.prog 144 5 5 := ⟨_, _, Tryz.underlying144, rfl, rfl, 1, fun w => Tryz.sizeOf41 w, by decide⟩
theorem a_O : Fld Tryz.prog 144 6 6 := ⟨_, _, Tryz.underlying144, rfl, rfl, 1, fun w => Tryz.sizeOf142 w, by decide⟩
theorem a_9 : Fld Tryz.prog 144 7 7 := ⟨_, _, Tryz.underlying144, rfl, rfl, 1, fun w => Tryz.sizeOf142 w, by decide⟩
theorem m_t : Fld Tryz.prog 151 0 0 := ⟨_, _, Tryz.underlying151, rfl, rfl, 1, fun w => Tryz.sizeOf9 w, by decide⟩
theorem q_I : Fld Tryz.prog 151 1 1 := ⟨_, _, Tryz.underlying151, rfl, rfl, 1, fun w => Tryz.sizeOf3 w, by decide⟩
theorem q_J : Fld Tryz.prog 151 2 2 := ⟨_, _, Tryz.underlying151, rfl, rfl, 1, fun w => Tryz.sizeOf3 w, by decide⟩
theorem q_K : Fld Tryz.prog 151 3 3 := ⟨_, _, Tryz.underlying151, rfl, rfl, 1, fun w => Tryz.sizeOf4 w, by decide⟩
theorem m_u : Fld Tryz.prog 151 4 4 := ⟨_, _, Tryz.underlying151, rfl, rfl, 1, fun w => Tryz.sizeOf25 w, by decide⟩
theorem m_v : Fld Tryz.prog 151 5 5 := ⟨_, _, Tryz.underlying151, rfl, rfl, 1, fun w => Tryz.sizeOf41 w, by decide⟩
theorem m_w : Fld Tryz.prog 151 6 6 := ⟨_, _, Tryz.underlying151, rfl, rfl, 1, fun w => Tryz.sizeOf142 w, by decide⟩
theorem m_x : Fld Tryz.prog 151 7 7 := ⟨_, _, Tryz.underlying151, rfl, rfl, 1, fun w => Tryz.sizeOf142 w, by decide⟩
theorem m_y : Fld Tryz.prog 157 0 0 := ⟨_, _, Tryz.underlying157, rfl, rfl, 1, fun w => Tryz.sizeOf95 w, by decide⟩
theorem e_U : Fld Tryz.prog 157 1 1 := ⟨_, _, Tryz.underlying157, rfl, rfl, 1, fun w => Tryz.sizeOf25 w, by decide⟩
theorem q_L : Fld Tryz.prog 166 0 0 := ⟨_, _, Tryz.underlying166, rfl, rfl, 1, fun w => Tryz.sizeOf3 w, by decide⟩
theorem q_M : Fld Tryz.prog 166 1 1 := ⟨_, _, Tryz.underlying166, rfl, rfl, 1, fun w => Tryz.sizeOf3 w, by decide⟩
theorem m_z : Fld Tryz.prog 24 0 0 := ⟨_, _, Tryz.underlying24, rfl, rfl, 1, fun w => Tryz.sizeOf22 w, by decide⟩
theorem m_A : Fld Tryz.prog 27 0 0 := ⟨_, _, Tryz.underlying27, rfl, rfl, 1, fun w => Tryz.sizeOf25 w, by decide⟩
theorem f_27_1 : Fld Tryz.prog 27 1 1 := ⟨_, _, Tryz.underlying27, rfl, rfl, 1, fun w => Tryz.sizeOf3 w, by decide⟩
theorem m_B : Fld Tryz.prog 29 0 0 := ⟨_, _, Tryz.underlying29, rfl, rfl, 1, fun w => Tryz.sizeOf24 w, by decide⟩
theorem m_C : Fld Tryz.prog 29 1 1 := ⟨_, _, Tryz.underlying29, rfl, rfl, 2, fun w => Tryz.sizeOf27 w, by decide⟩
theorem b_D : Fld Tryz.prog 34 0 0 := ⟨_, _, Tryz.underlying34, rfl, rfl, 1, fun w => Tryz.sizeOf32 w, by decide⟩
theorem b_l : Fld Tryz.prog 35 0 0 := ⟨_, _, Tryz.underlying35, rfl, rfl, 1, fun w => Tryz.sizeOf25 w, by decide⟩
theorem d_2 : Fld Tryz.prog 35 1 1 := ⟨_, _, Tryz.underlying35, rfl, rfl, 1, fun w => Tryz.sizeOf3 w, by decide⟩
theorem c_D : Fld Tryz.prog 37 0 0 := ⟨_, _, Tryz.underlying37, rfl, rfl, 1, fun w => Tryz.sizeOf34 w, by decide⟩
theorem b_I : Fld Tryz.prog 37 1 1 := ⟨_, _, Tryz.underlying37, rfl, rfl, 2, fun w => Tryz.sizeOf35 w, by decide⟩
theorem h_Z : Fld Tryz.prog 63 0 0 := ⟨_, _, Tryz.underlying63, rfl, rfl, 1, fun w => Tryz.sizeOf9 w, by decide⟩
theorem m_D : Fld Tryz.prog 63 1 1 := ⟨_, _, Tryz.underlying63, rfl, rfl, 1, fun w => Tryz.sizeOf3 w, by decide⟩
theorem b_W : Fld Tryz.prog 76 0 0 := ⟨_, _, Tryz.underlying76, rfl, rfl, 1, fun w => Tryz.sizeOf3 w, by decide⟩
theorem c_E : Fld Tryz.prog 76 1 1 := ⟨_, _, Tryz.underlying76, rfl, rfl, 1, fun w => Tryz.sizeOf9 w, by decide⟩
theorem b_X : Fld Tryz.prog 76 2 2 := ⟨_, _, Tryz.underlying76, rfl, rfl, 1, fun w => Tryz.sizeOf3 w, by decide⟩
theorem c_F : Fld Tryz.prog 76 3 3 := ⟨_, _, Tryz.underlying76, rfl, rfl, 1, fun w => Tryz.sizeOf25 w, by decide⟩
theorem a_m : Fld Tryz.prog 95 0 0 := ⟨_, _, Tryz.underlying95, rfl, rfl, 1, fun w => Tryz.sizeOf93 w, by decide⟩
abbrev i_0 := @Tryz.sizeOf110
abbrev z_116 := @Tryz.sizeOf116
abbrev h_ := @Tryz.sizeOf118
abbrev z_142 := @Tryz.sizeOf142
abbrev u_ := @Tryz.sizeOf144
abbrev i_1 := @Tryz.sizeOf151
abbrev z_24 := @Tryz.sizeOf24
abbrev z_25 := @Tryz.sizeOf25
abbrev z_27 := @Tryz.sizeOf27
abbrev z_29 := @Tryz.sizeOf29
abbrev z_3 := @Tryz.sizeOf3
abbrev z_32 := @Tryz.sizeOf32
abbrev c_G := @Tryz.sizeOf34
abbrev c_h := @Tryz.sizeOf35
abbrev b_Y := @Tryz.sizeOf37
abbrev z_4 := @Tryz.sizeOf4
abbrev z_41 := @Tryz.sizeOf41
abbrev z_5 := @Tryz.sizeOf5
abbrev a_v := @Tryz.sizeOf63
abbrev U_ := @Tryz.sizeOf76
abbrev z_9 := @Tryz.sizeOf9
abbrev z_93 := @Tryz.sizeOf93
abbrev E_ := @Tryz.sizeOf95
abbrev d_D := @Tryz.underlying108
abbrev j_P := @Tryz.underlying129
abbrev z_ := @Tryz.underlying142
abbrev d_6 := @Tryz.underlying159
abbrev d_162 := @Tryz.underlying162
abbrev d_164 := @Tryz.underlying164
abbrev d_E := @Tryz.underlying22
abbrev i_ := @Tryz.underlying25
abbrev d_3 := @Tryz.underlying3
abbrev a_V := @Tryz.underlying32
abbrev d_4 := @Tryz.underlying4
abbrev a_3 := @Tryz.underlying41
abbrev d_5 := @Tryz.underlying5
abbrev b_m := @Tryz.underlying59
abbrev b_J := @Tryz.underlying89
abbrev d_9 := @Tryz.underlying9
abbrev Y_ := @Tryz.underlying93
theorem a_a (w : World) : (zeroValue 118).run Tryz.prog w = .ok (.agg #[(.int .i64 0), (.slice none 0 0), (.slice none 0 0)]) w := Tryz.zeroValue118 w
theorem d_7 (w : World) : (zeroValue 144).run Tryz.prog w = .ok (.agg #[(Str.v ⟨[]⟩), (.int .i64 0), (.int .i64 0), (.bool false), (.slice none 0 0), (.slice none 0 0), (.slice none 0 0), (.slice none 0 0)]) w := Tryz.zeroValue144 w
theorem q_N (w : World) : (zeroValue 162).run Tryz.prog w = .ok (.pointer none) w := Tryz.zeroValue162 w
theorem m_E (w : World) : (zeroValue 34).run Tryz.prog w = .ok (.agg #[(.slice none 0 0)]) w := Tryz.zeroValue34 w
theorem m_F (w : World) : (zeroValue 35).run Tryz.prog w = .ok (.agg #[(.slice none 0 0), (.int .i64 0)]) w := Tryz.zeroValue35 w
theorem j_Q (w : World) : (zeroValue 37).run Tryz.prog w = .ok (.agg #[(.slice none 0 0), (.slice none 0 0), (.int .i64 0)]) w := Tryz.zeroValue37 w
theorem e_V (w : World) : (zeroValue 63).run Tryz.prog w = .ok (.agg #[(Str.v ⟨[]⟩), (.int .i64 0), (.slice none 0 0)]) w := Tryz.zeroValue63 w
theorem d_8 (w : World) : (zeroValue 76).run Tryz.prog w = .ok (.agg #[(.int .i64 0), (Str.v ⟨[]⟩), (.int .i64 0), (.slice none 0 0)]) w := Tryz.zeroValue76 w
theorem j_R (w : World) : (zeroValue 95).run Tryz.prog w = .ok (.agg #[(.slice none 0 0)]) w := Tryz.zeroValue95 w
end Go.Vw
