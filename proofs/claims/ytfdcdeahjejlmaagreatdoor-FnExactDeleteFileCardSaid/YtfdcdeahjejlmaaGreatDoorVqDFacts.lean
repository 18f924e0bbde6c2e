import Derived.Test.YtfdcdeahjejlmaaGreatDoorVqData
import Derived.Test.YtfdcdeahjejlmaaGreatDoorVqFun
import Derived.Test.YtfdcdeahjejlmaaGreatDoorProg
set_option linter.unusedVariables false
namespace Go.Vw
open Go.RowKit Dat Go.Proofs
theorem mo : Tryz.prog.follows .mixedOrders = true := by kernel_rfl
abbrev g_108 := @Tryz.isAgg108
abbrev g_110 := @Tryz.isAgg110
abbrev g_116 := @Tryz.isAgg116
abbrev y_ := @Tryz.isAgg118
abbrev H_ := @Tryz.isAgg142
abbrev K_ := @Tryz.isAgg144
abbrev g_151 := @Tryz.isAgg151
abbrev g_162 := @Tryz.isAgg162
abbrev g_22 := @Tryz.isAgg22
abbrev g_24 := @Tryz.isAgg24
abbrev I_ := @Tryz.isAgg25
abbrev g_27 := @Tryz.isAgg27
abbrev g_29 := @Tryz.isAgg29
abbrev g_3 := @Tryz.isAgg3
abbrev a_Y := @Tryz.isAgg32
abbrev b_w := @Tryz.isAgg34
abbrev a_u := @Tryz.isAgg35
abbrev a_n := @Tryz.isAgg37
abbrev g_4 := @Tryz.isAgg4
abbrev b_x := @Tryz.isAgg41
abbrev g_5 := @Tryz.isAgg5
abbrev b_U := @Tryz.isAgg63
abbrev a_I := @Tryz.isAgg76
abbrev g_9 := @Tryz.isAgg9
abbrev a_e := @Tryz.isAgg93
abbrev P_ := @Tryz.isAgg95
theorem Y_ : c_2 Tryz.prog 118 [(.int .i64 0), (.slice none 0 0), (.slice none 0 0)] [(0, 1), (1, 1), (2, 1)] := ⟨fun w => Tryz.zeroValue118 w, _, Tryz.underlying118, fun w => by simp [Tryz.sizeOf116, Tryz.sizeOf25, Tryz.sizeOf3]⟩
theorem i_P : c_2 Tryz.prog 129 [] [] := ⟨fun w => Tryz.zeroValue129 w, _, Tryz.underlying129, fun w => by simp []⟩
theorem o_7 : c_2 Tryz.prog 157 [(.slice none 0 0), (.slice none 0 0)] [(0, 1), (1, 1)] := ⟨fun w => Tryz.zeroValue157 w, _, Tryz.underlying157, fun w => by simp [Tryz.sizeOf25, Tryz.sizeOf95]⟩
theorem o_8 : c_2 Tryz.prog 166 [(.int .i64 0), (.int .i64 0)] [(0, 1), (1, 1)] := ⟨fun w => Tryz.zeroValue166 w, _, Tryz.underlying166, fun w => by simp [Tryz.sizeOf3]⟩
theorem l_1 : c_2 Tryz.prog 34 [(.slice none 0 0)] [(0, 1)] := ⟨fun w => Tryz.zeroValue34 w, _, Tryz.underlying34, fun w => by simp [Tryz.sizeOf32]⟩
theorem l_2 : c_2 Tryz.prog 35 [(.slice none 0 0), (.int .i64 0)] [(0, 1), (1, 1)] := ⟨fun w => Tryz.zeroValue35 w, _, Tryz.underlying35, fun w => by simp [Tryz.sizeOf25, Tryz.sizeOf3]⟩
theorem l_3 : c_2 Tryz.prog 37 [(.slice none 0 0), (.slice none 0 0), (.int .i64 0)] [(0, 1), (1, 2)] := ⟨fun w => Tryz.zeroValue37 w, _, Tryz.underlying37, fun w => by simp [Tryz.sizeOf34, Tryz.sizeOf35]⟩
theorem f_m : c_2 Tryz.prog 63 [(Str.v ⟨[]⟩), (.int .i64 0), (.slice none 0 0)] [(0, 1), (1, 1), (2, 1)] := ⟨fun w => Tryz.zeroValue63 w, _, Tryz.underlying63, fun w => by simp [Tryz.sizeOf25, Tryz.sizeOf3, Tryz.sizeOf9]⟩
theorem b_V : c_2 Tryz.prog 76 [(.int .i64 0), (Str.v ⟨[]⟩), (.int .i64 0), (.slice none 0 0)] [(0, 1), (1, 1), (2, 1), (3, 1)] := ⟨fun w => Tryz.zeroValue76 w, _, Tryz.underlying76, fun w => by simp [Tryz.sizeOf25, Tryz.sizeOf3, Tryz.sizeOf9]⟩
theorem l_4 : c_2 Tryz.prog 95 [(.slice none 0 0)] [(0, 1)] := ⟨fun w => Tryz.zeroValue95 w, _, Tryz.underlying95, fun w => by simp [Tryz.sizeOf93]⟩
theorem h_o : El Tryz.prog 116 118 3 56 (.agg #[(.int .i64 0), (.slice none 0 0), (.slice none 0 0)]) := ⟨Tryz.underlying116, by kernel_rfl, rfl, by decide, by decide⟩
theorem c_f : El Tryz.prog 142 3 1 8 (.int .i64 0) := ⟨Tryz.underlying142, by kernel_rfl, rfl, by decide, by decide⟩
theorem C_ : El Tryz.prog 25 5 1 1 (.int .u8 0) := ⟨Tryz.underlying25, by kernel_rfl, rfl, by decide, by decide⟩
theorem e_l : El Tryz.prog 32 95 1 24 (.agg #[(.slice none 0 0)]) := ⟨Tryz.underlying32, by kernel_rfl, rfl, by decide, by decide⟩
theorem f_n : El Tryz.prog 41 9 1 16 (Str.v ⟨[]⟩) := ⟨Tryz.underlying41, by kernel_rfl, rfl, by decide, by decide⟩
theorem b_K : El Tryz.prog 59 63 3 48 (.agg #[(Str.v ⟨[]⟩), (.int .i64 0), (.slice none 0 0)]) := ⟨Tryz.underlying59, by kernel_rfl, rfl, by decide, by decide⟩
theorem e_m : El Tryz.prog 89 76 4 56 (.agg #[(.int .i64 0), (Str.v ⟨[]⟩), (.int .i64 0), (.slice none 0 0)]) := ⟨Tryz.underlying89, by kernel_rfl, rfl, by decide, by decide⟩
theorem e_n : El Tryz.prog 93 144 8 136 (.agg #[(Str.v ⟨[]⟩), (.int .i64 0), (.int .i64 0), (.bool false), (.slice none 0 0), (.slice none 0 0), (.slice none 0 0), (.slice none 0 0)]) := ⟨Tryz.underlying93, by kernel_rfl, rfl, by decide, by decide⟩
theorem l_5 : Fld Tryz.prog 110 0 0 := ⟨_, _, Tryz.underlying110, rfl, rfl, 1, fun w => Tryz.sizeOf108 w, by decide⟩
theorem o_9 : Fld Tryz.prog 118 0 0 := ⟨_, _, Tryz.underlying118, rfl, rfl, 1, fun w => Tryz.sizeOf3 w, by decide⟩
theorem h_p : Fld Tryz.prog 118 2 2 := ⟨_, _, Tryz.underlying118, rfl, rfl, 1, fun w => Tryz.sizeOf116 w, by decide⟩
theorem c_g : Fld Tryz.prog 144 0 0 := ⟨_, _, Tryz.underlying144, rfl, rfl, 1, fun w => Tryz.sizeOf9 w, by decide⟩
theorem b_y : Fld Tryz.prog 144 1 1 := ⟨_, _, Tryz.underlying144, rfl, rfl, 1, fun w => Tryz.sizeOf3 w, by decide⟩
theorem a_O : Fld Tryz.prog 144 2 2 := ⟨_, _, Tryz.underlying144, rfl, rfl, 1, fun w => Tryz.sizeOf3 w, by decide⟩
theorem c_h : Fld Tryz.prog 144 3 3 := ⟨_, _, Tryz.underlying144, rfl, rfl, 1, fun w => Tryz.sizeOf4 w, by decide⟩
theorem a_N : Fld Tryz.prog 144 4 4 := ⟨_, _, Tryz.underlying144, rfl, rfl, 1, fun w => Tryz.sizeOf25 w, by decide⟩
theorem b_p : Fld Tryz.prog 144 5 5 := ⟨_, _, Tryz.underlying144, rfl, rfl, 1, fun w => Tryz.sizeOf41 w, by decide⟩
theorem a_J : Fld Tryz.prog 144 6 6 := ⟨_, _, Tryz.underlying144, rfl, rfl, 1, fun w => Tryz.sizeOf142 w, by decide⟩
theorem a_5 : Fld Tryz.prog 144 7 7 := ⟨_, _, Tryz.underlying144, rfl, rfl, 1, fun w => Tryz.sizeOf142 w, by decide⟩
theorem l_6 : Fld Tryz.prog 151 0 0 := ⟨_, _, Tryz.underlying151, rfl, rfl, 1, fun w => Tryz.sizeOf9 w, by decide⟩
theorem o_a : Fld Tryz.prog 151 1 1 := ⟨_, _, Tryz.underlying151, rfl, rfl, 1, fun w => Tryz.sizeOf3 w, by decide⟩
theorem o_b : Fld Tryz.prog 151 2 2 := ⟨_, _, Tryz.underlying151, rfl, rfl, 1, fun w => Tryz.sizeOf3 w, by decide⟩
theorem o_c : Fld Tryz.prog 151 3 3 := ⟨_, _, Tryz.underlying151, rfl, rfl, 1, fun w => Tryz.sizeOf4 w, by decide⟩
theorem l_7 : Fld Tryz.prog 151 4 4 := ⟨_, _, Tryz.underlying151, rfl, rfl, 1, fun w => Tryz.sizeOf25 w, by decide⟩
theorem l_8 : Fld Tryz.prog 151 5 5 := ⟨_, _, Tryz.underlying151, rfl, rfl, 1, fun w => Tryz.sizeOf41 w, by decide⟩
theorem l_9 : Fld Tryz.prog 151 6 6 := ⟨_, _, Tryz.underlying151, rfl, rfl, 1, fun w => Tryz.sizeOf142 w, by decide⟩
theorem l_a : Fld Tryz.prog 151 7 7 := ⟨_, _, Tryz.underlying151, rfl, rfl, 1, fun w => Tryz.sizeOf142 w, by decide⟩
theorem l_b : Fld Tryz.prog 157 0 0 := ⟨_, _, Tryz.underlying157, rfl, rfl, 1, fun w => Tryz.sizeOf95 w, by decide⟩
theorem e_o : Fld Tryz.prog 157 1 1 := ⟨_, _, Tryz.underlying157, rfl, rfl, 1, fun w => Tryz.sizeOf25 w, by decide⟩
theorem o_d : Fld Tryz.prog 166 0 0 := ⟨_, _, Tryz.underlying166, rfl, rfl, 1, fun w => Tryz.sizeOf3 w, by decide⟩
theorem o_e : Fld Tryz.prog 166 1 1 := ⟨_, _, Tryz.underlying166, rfl, rfl, 1, fun w => Tryz.sizeOf3 w, by decide⟩
theorem l_c : Fld Tryz.prog 24 0 0 := ⟨_, _, Tryz.underlying24, rfl, rfl, 1, fun w => Tryz.sizeOf22 w, by decide⟩
theorem l_d : Fld Tryz.prog 27 0 0 := ⟨_, _, Tryz.underlying27, rfl, rfl, 1, fun w => Tryz.sizeOf25 w, by decide⟩
theorem f_27_1 : Fld Tryz.prog 27 1 1 := ⟨_, _, Tryz.underlying27, rfl, rfl, 1, fun w => Tryz.sizeOf3 w, by decide⟩
theorem l_e : Fld Tryz.prog 29 0 0 := ⟨_, _, Tryz.underlying29, rfl, rfl, 1, fun w => Tryz.sizeOf24 w, by decide⟩
theorem l_f : Fld Tryz.prog 29 1 1 := ⟨_, _, Tryz.underlying29, rfl, rfl, 2, fun w => Tryz.sizeOf27 w, by decide⟩
theorem a_P : Fld Tryz.prog 34 0 0 := ⟨_, _, Tryz.underlying34, rfl, rfl, 1, fun w => Tryz.sizeOf32 w, by decide⟩
theorem a_S : Fld Tryz.prog 35 0 0 := ⟨_, _, Tryz.underlying35, rfl, rfl, 1, fun w => Tryz.sizeOf25 w, by decide⟩
theorem c_i : Fld Tryz.prog 35 1 1 := ⟨_, _, Tryz.underlying35, rfl, rfl, 1, fun w => Tryz.sizeOf3 w, by decide⟩
theorem b_L : Fld Tryz.prog 37 0 0 := ⟨_, _, Tryz.underlying37, rfl, rfl, 1, fun w => Tryz.sizeOf34 w, by decide⟩
theorem b_a : Fld Tryz.prog 37 1 1 := ⟨_, _, Tryz.underlying37, rfl, rfl, 2, fun w => Tryz.sizeOf35 w, by decide⟩
theorem h_q : Fld Tryz.prog 63 0 0 := ⟨_, _, Tryz.underlying63, rfl, rfl, 1, fun w => Tryz.sizeOf9 w, by decide⟩
theorem b_W : Fld Tryz.prog 76 0 0 := ⟨_, _, Tryz.underlying76, rfl, rfl, 1, fun w => Tryz.sizeOf3 w, by decide⟩
theorem c_A : Fld Tryz.prog 76 1 1 := ⟨_, _, Tryz.underlying76, rfl, rfl, 1, fun w => Tryz.sizeOf9 w, by decide⟩
theorem b_X : Fld Tryz.prog 76 2 2 := ⟨_, _, Tryz.underlying76, rfl, rfl, 1, fun w => Tryz.sizeOf3 w, by decide⟩
theorem c_B : Fld Tryz.prog 76 3 3 := ⟨_, _, Tryz.underlying76, rfl, rfl, 1, fun w => Tryz.sizeOf25 w, by decide⟩
theorem a_7 : Fld Tryz.prog 95 0 0 := ⟨_, _, Tryz.underlying95, rfl, rfl, 1, fun w => Tryz.sizeOf93 w, by decide⟩
abbrev h_r := @Tryz.sizeOf110
abbrev z_116 := @Tryz.sizeOf116
abbrev k_ := @Tryz.sizeOf118
abbrev e_p := @Tryz.sizeOf142
abbrev q_ := @Tryz.sizeOf144
abbrev h_s := @Tryz.sizeOf151
abbrev z_24 := @Tryz.sizeOf24
abbrev e_q := @Tryz.sizeOf25
abbrev z_27 := @Tryz.sizeOf27
abbrev z_29 := @Tryz.sizeOf29
abbrev z_3 := @Tryz.sizeOf3
abbrev z_32 := @Tryz.sizeOf32
abbrev a_Z := @Tryz.sizeOf34
abbrev a_2 := @Tryz.sizeOf35
abbrev Z_ := @Tryz.sizeOf37
abbrev z_4 := @Tryz.sizeOf4
abbrev z_41 := @Tryz.sizeOf41
abbrev z_5 := @Tryz.sizeOf5
abbrev a_q := @Tryz.sizeOf63
abbrev V_ := @Tryz.sizeOf76
abbrev z_9 := @Tryz.sizeOf9
abbrev z_93 := @Tryz.sizeOf93
abbrev D_ := @Tryz.sizeOf95
abbrev d_k := @Tryz.underlying108
abbrev i_Q := @Tryz.underlying129
abbrev F_ := @Tryz.underlying142
abbrev c_W := @Tryz.underlying159
abbrev d_162 := @Tryz.underlying162
abbrev d_164 := @Tryz.underlying164
abbrev d_l := @Tryz.underlying22
abbrev i_ := @Tryz.underlying25
abbrev d_3 := @Tryz.underlying3
abbrev a_v := @Tryz.underlying32
abbrev d_4 := @Tryz.underlying4
abbrev a_8 := @Tryz.underlying41
abbrev d_5 := @Tryz.underlying5
abbrev b_l := @Tryz.underlying59
abbrev b_M := @Tryz.underlying89
abbrev d_9 := @Tryz.underlying9
abbrev J_ := @Tryz.underlying93
theorem a_f (w : World) : (zeroValue 118).run Tryz.prog w = .ok (.agg #[(.int .i64 0), (.slice none 0 0), (.slice none 0 0)]) w := Tryz.zeroValue118 w
theorem b_N (w : World) : (zeroValue 144).run Tryz.prog w = .ok (.agg #[(Str.v ⟨[]⟩), (.int .i64 0), (.int .i64 0), (.bool false), (.slice none 0 0), (.slice none 0 0), (.slice none 0 0), (.slice none 0 0)]) w := Tryz.zeroValue144 w
theorem o_f (w : World) : (zeroValue 162).run Tryz.prog w = .ok (.pointer none) w := Tryz.zeroValue162 w
theorem e_r (w : World) : (zeroValue 34).run Tryz.prog w = .ok (.agg #[(.slice none 0 0)]) w := Tryz.zeroValue34 w
theorem c_C (w : World) : (zeroValue 35).run Tryz.prog w = .ok (.agg #[(.slice none 0 0), (.int .i64 0)]) w := Tryz.zeroValue35 w
theorem b_Y (w : World) : (zeroValue 37).run Tryz.prog w = .ok (.agg #[(.slice none 0 0), (.slice none 0 0), (.int .i64 0)]) w := Tryz.zeroValue37 w
theorem d_m (w : World) : (zeroValue 63).run Tryz.prog w = .ok (.agg #[(Str.v ⟨[]⟩), (.int .i64 0), (.slice none 0 0)]) w := Tryz.zeroValue63 w
theorem c_X (w : World) : (zeroValue 76).run Tryz.prog w = .ok (.agg #[(.int .i64 0), (Str.v ⟨[]⟩), (.int .i64 0), (.slice none 0 0)]) w := Tryz.zeroValue76 w
theorem d_n (w : World) : (zeroValue 95).run Tryz.prog w = .ok (.agg #[(.slice none 0 0)]) w := Tryz.zeroValue95 w
end Go.Vw
