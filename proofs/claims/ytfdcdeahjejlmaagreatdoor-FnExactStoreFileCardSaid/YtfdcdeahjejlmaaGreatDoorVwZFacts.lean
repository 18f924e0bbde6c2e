import Derived.Test.YtfdcdeahjejlmaaGreatDoorVwData
import Derived.Test.YtfdcdeahjejlmaaGreatDoorVwFun
import Derived.Test.YtfdcdeahjejlmaaGreatDoorProg
set_option linter.unusedVariables false
namespace Go.Vw
open Go.RowKit Dat Go.Proofs
theorem mo : Tryz.prog.follows .mixedOrders = true := by kernel_rfl
abbrev g_108 := @Tryz.isAgg108
abbrev g_110 := @Tryz.isAgg110
abbrev g_116 := @Tryz.isAgg116
abbrev g_118 := @Tryz.isAgg118
abbrev g_142 := @Tryz.isAgg142
abbrev g_144 := @Tryz.isAgg144
abbrev g_151 := @Tryz.isAgg151
abbrev g_162 := @Tryz.isAgg162
abbrev g_22 := @Tryz.isAgg22
abbrev g_24 := @Tryz.isAgg24
abbrev g_25 := @Tryz.isAgg25
abbrev g_27 := @Tryz.isAgg27
abbrev g_29 := @Tryz.isAgg29
abbrev g_3 := @Tryz.isAgg3
abbrev g_32 := @Tryz.isAgg32
abbrev g_34 := @Tryz.isAgg34
abbrev g_35 := @Tryz.isAgg35
abbrev g_37 := @Tryz.isAgg37
abbrev g_4 := @Tryz.isAgg4
abbrev g_41 := @Tryz.isAgg41
abbrev g_5 := @Tryz.isAgg5
abbrev g_63 := @Tryz.isAgg63
abbrev g_76 := @Tryz.isAgg76
abbrev g_9 := @Tryz.isAgg9
abbrev g_93 := @Tryz.isAgg93
abbrev g_95 := @Tryz.isAgg95
theorem build_118 : BuildT Tryz.prog 118 [(.int .i64 0), (.slice none 0 0), (.slice none 0 0)] [(0, 1), (1, 1), (2, 1)] := ⟨fun w => Tryz.zeroValue118 w, _, Tryz.underlying118, fun w => by simp [Tryz.sizeOf116, Tryz.sizeOf25, Tryz.sizeOf3]⟩
theorem build_129 : BuildT Tryz.prog 129 [] [] := ⟨fun w => Tryz.zeroValue129 w, _, Tryz.underlying129, fun w => by simp []⟩
theorem build_157 : BuildT Tryz.prog 157 [(.slice none 0 0), (.slice none 0 0)] [(0, 1), (1, 1)] := ⟨fun w => Tryz.zeroValue157 w, _, Tryz.underlying157, fun w => by simp [Tryz.sizeOf25, Tryz.sizeOf95]⟩
theorem build_166 : BuildT Tryz.prog 166 [(.int .i64 0), (.int .i64 0)] [(0, 1), (1, 1)] := ⟨fun w => Tryz.zeroValue166 w, _, Tryz.underlying166, fun w => by simp [Tryz.sizeOf3]⟩
theorem build_34 : BuildT Tryz.prog 34 [(.slice none 0 0)] [(0, 1)] := ⟨fun w => Tryz.zeroValue34 w, _, Tryz.underlying34, fun w => by simp [Tryz.sizeOf32]⟩
theorem build_35 : BuildT Tryz.prog 35 [(.slice none 0 0), (.int .i64 0)] [(0, 1), (1, 1)] := ⟨fun w => Tryz.zeroValue35 w, _, Tryz.underlying35, fun w => by simp [Tryz.sizeOf25, Tryz.sizeOf3]⟩
theorem build_37 : BuildT Tryz.prog 37 [(.slice none 0 0), (.slice none 0 0), (.int .i64 0)] [(0, 1), (1, 2)] := ⟨fun w => Tryz.zeroValue37 w, _, Tryz.underlying37, fun w => by simp [Tryz.sizeOf34, Tryz.sizeOf35]⟩
theorem build_63 : BuildT Tryz.prog 63 [(Str.v ⟨[]⟩), (.int .i64 0), (.slice none 0 0)] [(0, 1), (1, 1), (2, 1)] := ⟨fun w => Tryz.zeroValue63 w, _, Tryz.underlying63, fun w => by simp [Tryz.sizeOf25, Tryz.sizeOf3, Tryz.sizeOf9]⟩
theorem build_76 : BuildT Tryz.prog 76 [(.int .i64 0), (Str.v ⟨[]⟩), (.int .i64 0), (.slice none 0 0)] [(0, 1), (1, 1), (2, 1), (3, 1)] := ⟨fun w => Tryz.zeroValue76 w, _, Tryz.underlying76, fun w => by simp [Tryz.sizeOf25, Tryz.sizeOf3, Tryz.sizeOf9]⟩
theorem build_95 : BuildT Tryz.prog 95 [(.slice none 0 0)] [(0, 1)] := ⟨fun w => Tryz.zeroValue95 w, _, Tryz.underlying95, fun w => by simp [Tryz.sizeOf93]⟩
theorem el_116 : El Tryz.prog 116 118 3 56 (.agg #[(.int .i64 0), (.slice none 0 0), (.slice none 0 0)]) := ⟨Tryz.underlying116, by kernel_rfl, rfl, by decide, by decide⟩
theorem el_142 : El Tryz.prog 142 3 1 8 (.int .i64 0) := ⟨Tryz.underlying142, by kernel_rfl, rfl, by decide, by decide⟩
theorem el_25 : El Tryz.prog 25 5 1 1 (.int .u8 0) := ⟨Tryz.underlying25, by kernel_rfl, rfl, by decide, by decide⟩
theorem el_32 : El Tryz.prog 32 95 1 24 (.agg #[(.slice none 0 0)]) := ⟨Tryz.underlying32, by kernel_rfl, rfl, by decide, by decide⟩
theorem el_41 : El Tryz.prog 41 9 1 16 (Str.v ⟨[]⟩) := ⟨Tryz.underlying41, by kernel_rfl, rfl, by decide, by decide⟩
theorem el_59 : El Tryz.prog 59 63 3 48 (.agg #[(Str.v ⟨[]⟩), (.int .i64 0), (.slice none 0 0)]) := ⟨Tryz.underlying59, by kernel_rfl, rfl, by decide, by decide⟩
theorem el_89 : El Tryz.prog 89 76 4 56 (.agg #[(.int .i64 0), (Str.v ⟨[]⟩), (.int .i64 0), (.slice none 0 0)]) := ⟨Tryz.underlying89, by kernel_rfl, rfl, by decide, by decide⟩
theorem el_93 : El Tryz.prog 93 144 8 136 (.agg #[(Str.v ⟨[]⟩), (.int .i64 0), (.int .i64 0), (.bool false), (.slice none 0 0), (.slice none 0 0), (.slice none 0 0), (.slice none 0 0)]) := ⟨Tryz.underlying93, by kernel_rfl, rfl, by decide, by decide⟩
theorem f_110_0 : Fld Tryz.prog 110 0 0 := ⟨_, _, Tryz.underlying110, rfl, rfl, 1, fun w => Tryz.sizeOf108 w, by decide⟩
theorem f_118_0 : Fld Tryz.prog 118 0 0 := ⟨_, _, Tryz.underlying118, rfl, rfl, 1, fun w => Tryz.sizeOf3 w, by decide⟩
theorem f_118_2 : Fld Tryz.prog 118 2 2 := ⟨_, _, Tryz.underlying118, rfl, rfl, 1, fun w => Tryz.sizeOf116 w, by decide⟩
theorem f_144_0 : Fld Tryz.prog 144 0 0 := ⟨_, _, Tryz.underlying144, rfl, rfl, 1, fun w => Tryz.sizeOf9 w, by decide⟩
theorem f_144_1 : Fld Tryz.prog 144 1 1 := ⟨_, _, Tryz.underlying144, rfl, rfl, 1, fun w => Tryz.sizeOf3 w, by decide⟩
theorem f_144_2 : Fld Tryz.prog 144 2 2 := ⟨_, _, Tryz.underlying144, rfl, rfl, 1, fun w => Tryz.sizeOf3 w, by decide⟩
theorem f_144_3 : Fld Tryz.prog 144 3 3 := ⟨_, _, Tryz.underlying144, rfl, rfl, 1, fun w => Tryz.sizeOf4 w, by decide⟩
theorem f_144_4 : Fld Tryz.prog 144 4 4 := ⟨_, _, Tryz.underlying144, rfl, rfl, 1, fun w => Tryz.sizeOf25 w, by decide⟩
theorem f_144_5 : Fld Tryz.prog 144 5 5 := ⟨_, _, Tryz.underlying144, rfl, rfl, 1, fun w => Tryz.sizeOf41 w, by decide⟩
theorem f_144_6 : Fld Tryz.prog 144 6 6 := ⟨_, _, Tryz.underlying144, rfl, rfl, 1, fun w => Tryz.sizeOf142 w, by decide⟩
theorem f_144_7 : Fld Tryz.prog 144 7 7 := ⟨_, _, Tryz.underlying144, rfl, rfl, 1, fun w => Tryz.sizeOf142 w, by decide⟩
theorem f_151_0 : Fld Tryz.prog 151 0 0 := ⟨_, _, Tryz.underlying151, rfl, rfl, 1, fun w => Tryz.sizeOf9 w, by decide⟩
theorem f_151_1 : Fld Tryz.prog 151 1 1 := ⟨_, _, Tryz.underlying151, rfl, rfl, 1, fun w => Tryz.sizeOf3 w, by decide⟩
theorem f_151_2 : Fld Tryz.prog 151 2 2 := ⟨_, _, Tryz.underlying151, rfl, rfl, 1, fun w => Tryz.sizeOf3 w, by decide⟩
theorem f_151_3 : Fld Tryz.prog 151 3 3 := ⟨_, _, Tryz.underlying151, rfl, rfl, 1, fun w => Tryz.sizeOf4 w, by decide⟩
theorem f_151_4 : Fld Tryz.prog 151 4 4 := ⟨_, _, Tryz.underlying151, rfl, rfl, 1, fun w => Tryz.sizeOf25 w, by decide⟩
theorem f_151_5 : Fld Tryz.prog 151 5 5 := ⟨_, _, Tryz.underlying151, rfl, rfl, 1, fun w => Tryz.sizeOf41 w, by decide⟩
theorem f_151_6 : Fld Tryz.prog 151 6 6 := ⟨_, _, Tryz.underlying151, rfl, rfl, 1, fun w => Tryz.sizeOf142 w, by decide⟩
theorem f_151_7 : Fld Tryz.prog 151 7 7 := ⟨_, _, Tryz.underlying151, rfl, rfl, 1, fun w => Tryz.sizeOf142 w, by decide⟩
theorem f_157_0 : Fld Tryz.prog 157 0 0 := ⟨_, _, Tryz.underlying157, rfl, rfl, 1, fun w => Tryz.sizeOf95 w, by decide⟩
theorem f_157_1 : Fld Tryz.prog 157 1 1 := ⟨_, _, Tryz.underlying157, rfl, rfl, 1, fun w => Tryz.sizeOf25 w, by decide⟩
theorem f_166_0 : Fld Tryz.prog 166 0 0 := ⟨_, _, Tryz.underlying166, rfl, rfl, 1, fun w => Tryz.sizeOf3 w, by decide⟩
theorem f_166_1 : Fld Tryz.prog 166 1 1 := ⟨_, _, Tryz.underlying166, rfl, rfl, 1, fun w => Tryz.sizeOf3 w, by decide⟩
theorem f_24_0 : Fld Tryz.prog 24 0 0 := ⟨_, _, Tryz.underlying24, rfl, rfl, 1, fun w => Tryz.sizeOf22 w, by decide⟩
theorem f_27_0 : Fld Tryz.prog 27 0 0 := ⟨_, _, Tryz.underlying27, rfl, rfl, 1, fun w => Tryz.sizeOf25 w, by decide⟩
theorem f_27_1 : Fld Tryz.prog 27 1 1 := ⟨_, _, Tryz.underlying27, rfl, rfl, 1, fun w => Tryz.sizeOf3 w, by decide⟩
theorem f_29_0 : Fld Tryz.prog 29 0 0 := ⟨_, _, Tryz.underlying29, rfl, rfl, 1, fun w => Tryz.sizeOf24 w, by decide⟩
theorem f_29_1 : Fld Tryz.prog 29 1 1 := ⟨_, _, Tryz.underlying29, rfl, rfl, 2, fun w => Tryz.sizeOf27 w, by decide⟩
theorem f_34_0 : Fld Tryz.prog 34 0 0 := ⟨_, _, Tryz.underlying34, rfl, rfl, 1, fun w => Tryz.sizeOf32 w, by decide⟩
theorem f_35_0 : Fld Tryz.prog 35 0 0 := ⟨_, _, Tryz.underlying35, rfl, rfl, 1, fun w => Tryz.sizeOf25 w, by decide⟩
theorem f_35_1 : Fld Tryz.prog 35 1 1 := ⟨_, _, Tryz.underlying35, rfl, rfl, 1, fun w => Tryz.sizeOf3 w, by decide⟩
theorem f_37_0 : Fld Tryz.prog 37 0 0 := ⟨_, _, Tryz.underlying37, rfl, rfl, 1, fun w => Tryz.sizeOf34 w, by decide⟩
theorem f_37_1 : Fld Tryz.prog 37 1 1 := ⟨_, _, Tryz.underlying37, rfl, rfl, 2, fun w => Tryz.sizeOf35 w, by decide⟩
theorem f_63_0 : Fld Tryz.prog 63 0 0 := ⟨_, _, Tryz.underlying63, rfl, rfl, 1, fun w => Tryz.sizeOf9 w, by decide⟩
theorem f_76_0 : Fld Tryz.prog 76 0 0 := ⟨_, _, Tryz.underlying76, rfl, rfl, 1, fun w => Tryz.sizeOf3 w, by decide⟩
theorem f_76_1 : Fld Tryz.prog 76 1 1 := ⟨_, _, Tryz.underlying76, rfl, rfl, 1, fun w => Tryz.sizeOf9 w, by decide⟩
theorem f_76_2 : Fld Tryz.prog 76 2 2 := ⟨_, _, Tryz.underlying76, rfl, rfl, 1, fun w => Tryz.sizeOf3 w, by decide⟩
theorem f_76_3 : Fld Tryz.prog 76 3 3 := ⟨_, _, Tryz.underlying76, rfl, rfl, 1, fun w => Tryz.sizeOf25 w, by decide⟩
theorem f_95_0 : Fld Tryz.prog 95 0 0 := ⟨_, _, Tryz.underlying95, rfl, rfl, 1, fun w => Tryz.sizeOf93 w, by decide⟩
abbrev z_110 := @Tryz.sizeOf110
abbrev z_116 := @Tryz.sizeOf116
abbrev z_118 := @Tryz.sizeOf118
abbrev z_142 := @Tryz.sizeOf142
abbrev z_144 := @Tryz.sizeOf144
abbrev z_151 := @Tryz.sizeOf151
abbrev z_24 := @Tryz.sizeOf24
abbrev z_25 := @Tryz.sizeOf25
abbrev z_27 := @Tryz.sizeOf27
abbrev z_29 := @Tryz.sizeOf29
abbrev z_3 := @Tryz.sizeOf3
abbrev z_32 := @Tryz.sizeOf32
abbrev z_34 := @Tryz.sizeOf34
abbrev z_35 := @Tryz.sizeOf35
abbrev z_37 := @Tryz.sizeOf37
abbrev z_4 := @Tryz.sizeOf4
abbrev z_41 := @Tryz.sizeOf41
abbrev z_5 := @Tryz.sizeOf5
abbrev z_63 := @Tryz.sizeOf63
abbrev z_76 := @Tryz.sizeOf76
abbrev z_9 := @Tryz.sizeOf9
abbrev z_93 := @Tryz.sizeOf93
abbrev z_95 := @Tryz.sizeOf95
abbrev d_108 := @Tryz.underlying108
abbrev d_129 := @Tryz.underlying129
abbrev d_142 := @Tryz.underlying142
abbrev d_159 := @Tryz.underlying159
abbrev d_162 := @Tryz.underlying162
abbrev d_164 := @Tryz.underlying164
abbrev d_22 := @Tryz.underlying22
abbrev d_25 := @Tryz.underlying25
abbrev d_3 := @Tryz.underlying3
abbrev d_32 := @Tryz.underlying32
abbrev d_4 := @Tryz.underlying4
abbrev d_41 := @Tryz.underlying41
abbrev d_5 := @Tryz.underlying5
abbrev d_59 := @Tryz.underlying59
abbrev d_89 := @Tryz.underlying89
abbrev d_9 := @Tryz.underlying9
abbrev d_93 := @Tryz.underlying93
theorem zero_118 (w : World) : (zeroValue 118).run Tryz.prog w = .ok (.agg #[(.int .i64 0), (.slice none 0 0), (.slice none 0 0)]) w := Tryz.zeroValue118 w
theorem zero_144 (w : World) : (zeroValue 144).run Tryz.prog w = .ok (.agg #[(Str.v ⟨[]⟩), (.int .i64 0), (.int .i64 0), (.bool false), (.slice none 0 0), (.slice none 0 0), (.slice none 0 0), (.slice none 0 0)]) w := Tryz.zeroValue144 w
theorem zero_162 (w : World) : (zeroValue 162).run Tryz.prog w = .ok (.pointer none) w := Tryz.zeroValue162 w
theorem zero_34 (w : World) : (zeroValue 34).run Tryz.prog w = .ok (.agg #[(.slice none 0 0)]) w := Tryz.zeroValue34 w
theorem zero_35 (w : World) : (zeroValue 35).run Tryz.prog w = .ok (.agg #[(.slice none 0 0), (.int .i64 0)]) w := Tryz.zeroValue35 w
theorem zero_37 (w : World) : (zeroValue 37).run Tryz.prog w = .ok (.agg #[(.slice none 0 0), (.slice none 0 0), (.int .i64 0)]) w := Tryz.zeroValue37 w
theorem zero_63 (w : World) : (zeroValue 63).run Tryz.prog w = .ok (.agg #[(Str.v ⟨[]⟩), (.int .i64 0), (.slice none 0 0)]) w := Tryz.zeroValue63 w
theorem zero_76 (w : World) : (zeroValue 76).run Tryz.prog w = .ok (.agg #[(.int .i64 0), (Str.v ⟨[]⟩), (.int .i64 0), (.slice none 0 0)]) w := Tryz.zeroValue76 w
theorem zero_95 (w : World) : (zeroValue 95).run Tryz.prog w = .ok (.agg #[(.slice none 0 0)]) w := Tryz.zeroValue95 w
end Go.Vw
