import Derived.Test.YtlbigkipbbhhmaaGreatDoorVwData
import Derived.Test.YtlbigkipbbhhmaaGreatDoorVwMap
import Derived.Test.YtlbigkipbbhhmaaGreatDoorProg
set_option linter.unusedVariables false
namespace Go.Vw
open Go.RowKit Dat Go.Proofs
theorem mo : Tryz.prog.follows .mixedOrders = true := by kernel_rfl
abbrev g_128 := @Tryz.isAgg128
abbrev g_142 := @Tryz.isAgg142
abbrev g_180 := @Tryz.isAgg180
abbrev g_195 := @Tryz.isAgg195
abbrev g_22 := @Tryz.isAgg22
abbrev g_24 := @Tryz.isAgg24
abbrev g_25 := @Tryz.isAgg25
abbrev g_28 := @Tryz.isAgg28
abbrev g_3 := @Tryz.isAgg3
abbrev g_30 := @Tryz.isAgg30
abbrev g_36 := @Tryz.isAgg36
abbrev g_4 := @Tryz.isAgg4
abbrev g_5 := @Tryz.isAgg5
abbrev g_50 := @Tryz.isAgg50
abbrev g_52 := @Tryz.isAgg52
abbrev g_57 := @Tryz.isAgg57
abbrev g_77 := @Tryz.isAgg77
abbrev g_78 := @Tryz.isAgg78
abbrev g_80 := @Tryz.isAgg80
abbrev g_9 := @Tryz.isAgg9
theorem build_107 : BuildT Tryz.prog 107 [(.slice none 0 0), (.slice none 0 0), (.slice none 0 0)] [(0, 1), (1, 1), (2, 1)] := ⟨fun w => Tryz.zeroValue107 w, _, Tryz.underlying107, fun w => by simp [Tryz.sizeOf25, Tryz.sizeOf30, Tryz.sizeOf36]⟩
theorem build_180 : BuildT Tryz.prog 180 [(.int .i64 0), (.int .i64 0)] [(0, 1), (1, 1)] := ⟨fun w => Tryz.zeroValue180 w, _, Tryz.underlying180, fun w => by simp [Tryz.sizeOf3]⟩
theorem build_190 : BuildT Tryz.prog 190 [(.slice none 0 0), (.slice none 0 0)] [(0, 1), (1, 1)] := ⟨fun w => Tryz.zeroValue190 w, _, Tryz.underlying190, fun w => by simp [Tryz.sizeOf25, Tryz.sizeOf30]⟩
theorem build_199 : BuildT Tryz.prog 199 [(.int .i64 0), (.int .i64 0)] [(0, 1), (1, 1)] := ⟨fun w => Tryz.zeroValue199 w, _, Tryz.underlying199, fun w => by simp [Tryz.sizeOf3]⟩
theorem build_202 : BuildT Tryz.prog 202 [(.slice none 0 0), (.slice none 0 0), (.int .i64 0)] [(0, 1), (1, 1), (2, 1)] := ⟨fun w => Tryz.zeroValue202 w, _, Tryz.underlying202, fun w => by simp [Tryz.sizeOf25, Tryz.sizeOf3, Tryz.sizeOf30]⟩
theorem build_52 : BuildT Tryz.prog 52 [(.int .i64 0), (.slice none 0 0), (.slice none 0 0)] [(0, 1), (1, 1), (2, 1)] := ⟨fun w => Tryz.zeroValue52 w, _, Tryz.underlying52, fun w => by simp [Tryz.sizeOf25, Tryz.sizeOf3, Tryz.sizeOf50]⟩
theorem build_57 : BuildT Tryz.prog 57 [(Str.v ⟨[]⟩), (.int .i64 0), (.int .i64 0), (.int .i64 0)] [(0, 1), (1, 1), (2, 1), (3, 1)] := ⟨fun w => Tryz.zeroValue57 w, _, Tryz.underlying57, fun w => by simp [Tryz.sizeOf3, Tryz.sizeOf9]⟩
theorem el_174 : El Tryz.prog 174 4 1 1 (.bool false) := ⟨Tryz.underlying174, by kernel_rfl, rfl, by decide, by decide⟩
theorem el_25 : El Tryz.prog 25 5 1 1 (.int .u8 0) := ⟨Tryz.underlying25, by kernel_rfl, rfl, by decide, by decide⟩
theorem el_28 : El Tryz.prog 28 80 8 136 (.agg #[(Str.v ⟨[]⟩), (.int .i64 0), (.int .i64 0), (.bool false), (.slice none 0 0), (.slice none 0 0), (.slice none 0 0), (.slice none 0 0)]) := ⟨Tryz.underlying28, by kernel_rfl, rfl, by decide, by decide⟩
theorem el_36 : El Tryz.prog 36 57 4 40 (.agg #[(Str.v ⟨[]⟩), (.int .i64 0), (.int .i64 0), (.int .i64 0)]) := ⟨Tryz.underlying36, by kernel_rfl, rfl, by decide, by decide⟩
theorem el_50 : El Tryz.prog 50 52 3 56 (.agg #[(.int .i64 0), (.slice none 0 0), (.slice none 0 0)]) := ⟨Tryz.underlying50, by kernel_rfl, rfl, by decide, by decide⟩
theorem el_77 : El Tryz.prog 77 9 1 16 (Str.v ⟨[]⟩) := ⟨Tryz.underlying77, by kernel_rfl, rfl, by decide, by decide⟩
theorem el_78 : El Tryz.prog 78 3 1 8 (.int .i64 0) := ⟨Tryz.underlying78, by kernel_rfl, rfl, by decide, by decide⟩
theorem f_107_0 : Fld Tryz.prog 107 0 0 := ⟨_, _, Tryz.underlying107, rfl, rfl, 1, fun w => Tryz.sizeOf30 w, by decide⟩
theorem f_107_1 : Fld Tryz.prog 107 1 1 := ⟨_, _, Tryz.underlying107, rfl, rfl, 1, fun w => Tryz.sizeOf25 w, by decide⟩
theorem f_107_2 : Fld Tryz.prog 107 2 2 := ⟨_, _, Tryz.underlying107, rfl, rfl, 1, fun w => Tryz.sizeOf36 w, by decide⟩
theorem f_128_0 : Fld Tryz.prog 128 0 0 := ⟨_, _, Tryz.underlying128, rfl, rfl, 1, fun w => Tryz.sizeOf9 w, by decide⟩
theorem f_128_1 : Fld Tryz.prog 128 1 1 := ⟨_, _, Tryz.underlying128, rfl, rfl, 1, fun w => Tryz.sizeOf3 w, by decide⟩
theorem f_128_2 : Fld Tryz.prog 128 2 2 := ⟨_, _, Tryz.underlying128, rfl, rfl, 1, fun w => Tryz.sizeOf3 w, by decide⟩
theorem f_128_3 : Fld Tryz.prog 128 3 3 := ⟨_, _, Tryz.underlying128, rfl, rfl, 1, fun w => Tryz.sizeOf4 w, by decide⟩
theorem f_128_4 : Fld Tryz.prog 128 4 4 := ⟨_, _, Tryz.underlying128, rfl, rfl, 1, fun w => Tryz.sizeOf25 w, by decide⟩
theorem f_128_5 : Fld Tryz.prog 128 5 5 := ⟨_, _, Tryz.underlying128, rfl, rfl, 1, fun w => Tryz.sizeOf77 w, by decide⟩
theorem f_128_6 : Fld Tryz.prog 128 6 6 := ⟨_, _, Tryz.underlying128, rfl, rfl, 1, fun w => Tryz.sizeOf78 w, by decide⟩
theorem f_128_7 : Fld Tryz.prog 128 7 7 := ⟨_, _, Tryz.underlying128, rfl, rfl, 1, fun w => Tryz.sizeOf78 w, by decide⟩
theorem f_180_0 : Fld Tryz.prog 180 0 0 := ⟨_, _, Tryz.underlying180, rfl, rfl, 1, fun w => Tryz.sizeOf3 w, by decide⟩
theorem f_180_1 : Fld Tryz.prog 180 1 1 := ⟨_, _, Tryz.underlying180, rfl, rfl, 1, fun w => Tryz.sizeOf3 w, by decide⟩
theorem f_190_0 : Fld Tryz.prog 190 0 0 := ⟨_, _, Tryz.underlying190, rfl, rfl, 1, fun w => Tryz.sizeOf30 w, by decide⟩
theorem f_190_1 : Fld Tryz.prog 190 1 1 := ⟨_, _, Tryz.underlying190, rfl, rfl, 1, fun w => Tryz.sizeOf25 w, by decide⟩
theorem f_199_0 : Fld Tryz.prog 199 0 0 := ⟨_, _, Tryz.underlying199, rfl, rfl, 1, fun w => Tryz.sizeOf3 w, by decide⟩
theorem f_199_1 : Fld Tryz.prog 199 1 1 := ⟨_, _, Tryz.underlying199, rfl, rfl, 1, fun w => Tryz.sizeOf3 w, by decide⟩
theorem f_202_0 : Fld Tryz.prog 202 0 0 := ⟨_, _, Tryz.underlying202, rfl, rfl, 1, fun w => Tryz.sizeOf30 w, by decide⟩
theorem f_202_1 : Fld Tryz.prog 202 1 1 := ⟨_, _, Tryz.underlying202, rfl, rfl, 1, fun w => Tryz.sizeOf25 w, by decide⟩
theorem f_202_2 : Fld Tryz.prog 202 2 2 := ⟨_, _, Tryz.underlying202, rfl, rfl, 1, fun w => Tryz.sizeOf3 w, by decide⟩
theorem f_24_0 : Fld Tryz.prog 24 0 0 := ⟨_, _, Tryz.underlying24, rfl, rfl, 1, fun w => Tryz.sizeOf22 w, by decide⟩
theorem f_30_0 : Fld Tryz.prog 30 0 0 := ⟨_, _, Tryz.underlying30, rfl, rfl, 1, fun w => Tryz.sizeOf28 w, by decide⟩
theorem f_52_0 : Fld Tryz.prog 52 0 0 := ⟨_, _, Tryz.underlying52, rfl, rfl, 1, fun w => Tryz.sizeOf3 w, by decide⟩
theorem f_52_2 : Fld Tryz.prog 52 2 2 := ⟨_, _, Tryz.underlying52, rfl, rfl, 1, fun w => Tryz.sizeOf50 w, by decide⟩
theorem f_57_0 : Fld Tryz.prog 57 0 0 := ⟨_, _, Tryz.underlying57, rfl, rfl, 1, fun w => Tryz.sizeOf9 w, by decide⟩
theorem f_57_1 : Fld Tryz.prog 57 1 1 := ⟨_, _, Tryz.underlying57, rfl, rfl, 1, fun w => Tryz.sizeOf3 w, by decide⟩
theorem f_57_2 : Fld Tryz.prog 57 2 2 := ⟨_, _, Tryz.underlying57, rfl, rfl, 1, fun w => Tryz.sizeOf3 w, by decide⟩
theorem f_57_3 : Fld Tryz.prog 57 3 3 := ⟨_, _, Tryz.underlying57, rfl, rfl, 1, fun w => Tryz.sizeOf3 w, by decide⟩
theorem f_80_0 : Fld Tryz.prog 80 0 0 := ⟨_, _, Tryz.underlying80, rfl, rfl, 1, fun w => Tryz.sizeOf9 w, by decide⟩
theorem f_80_1 : Fld Tryz.prog 80 1 1 := ⟨_, _, Tryz.underlying80, rfl, rfl, 1, fun w => Tryz.sizeOf3 w, by decide⟩
theorem f_80_2 : Fld Tryz.prog 80 2 2 := ⟨_, _, Tryz.underlying80, rfl, rfl, 1, fun w => Tryz.sizeOf3 w, by decide⟩
theorem f_80_3 : Fld Tryz.prog 80 3 3 := ⟨_, _, Tryz.underlying80, rfl, rfl, 1, fun w => Tryz.sizeOf4 w, by decide⟩
theorem f_80_4 : Fld Tryz.prog 80 4 4 := ⟨_, _, Tryz.underlying80, rfl, rfl, 1, fun w => Tryz.sizeOf25 w, by decide⟩
theorem f_80_5 : Fld Tryz.prog 80 5 5 := ⟨_, _, Tryz.underlying80, rfl, rfl, 1, fun w => Tryz.sizeOf77 w, by decide⟩
theorem f_80_6 : Fld Tryz.prog 80 6 6 := ⟨_, _, Tryz.underlying80, rfl, rfl, 1, fun w => Tryz.sizeOf78 w, by decide⟩
theorem f_80_7 : Fld Tryz.prog 80 7 7 := ⟨_, _, Tryz.underlying80, rfl, rfl, 1, fun w => Tryz.sizeOf78 w, by decide⟩
abbrev z_128 := @Tryz.sizeOf128
abbrev z_180 := @Tryz.sizeOf180
abbrev z_24 := @Tryz.sizeOf24
abbrev z_25 := @Tryz.sizeOf25
abbrev z_28 := @Tryz.sizeOf28
abbrev z_3 := @Tryz.sizeOf3
abbrev z_30 := @Tryz.sizeOf30
abbrev z_36 := @Tryz.sizeOf36
abbrev z_4 := @Tryz.sizeOf4
abbrev z_5 := @Tryz.sizeOf5
abbrev z_50 := @Tryz.sizeOf50
abbrev z_52 := @Tryz.sizeOf52
abbrev z_57 := @Tryz.sizeOf57
abbrev z_77 := @Tryz.sizeOf77
abbrev z_78 := @Tryz.sizeOf78
abbrev z_80 := @Tryz.sizeOf80
abbrev z_9 := @Tryz.sizeOf9
abbrev d_174 := @Tryz.underlying174
abbrev d_177 := @Tryz.underlying177
abbrev d_192 := @Tryz.underlying192
abbrev d_195 := @Tryz.underlying195
abbrev d_197 := @Tryz.underlying197
abbrev d_22 := @Tryz.underlying22
abbrev d_25 := @Tryz.underlying25
abbrev d_28 := @Tryz.underlying28
abbrev d_3 := @Tryz.underlying3
abbrev d_36 := @Tryz.underlying36
abbrev d_4 := @Tryz.underlying4
abbrev d_5 := @Tryz.underlying5
abbrev d_50 := @Tryz.underlying50
abbrev d_77 := @Tryz.underlying77
abbrev d_78 := @Tryz.underlying78
abbrev d_9 := @Tryz.underlying9
theorem zero_180 (w : World) : (zeroValue 180).run Tryz.prog w = .ok (.agg #[(.int .i64 0), (.int .i64 0)]) w := Tryz.zeroValue180 w
theorem zero_195 (w : World) : (zeroValue 195).run Tryz.prog w = .ok (.pointer none) w := Tryz.zeroValue195 w
theorem zero_30 (w : World) : (zeroValue 30).run Tryz.prog w = .ok (.agg #[(.slice none 0 0)]) w := Tryz.zeroValue30 w
theorem zero_4 (w : World) : (zeroValue 4).run Tryz.prog w = .ok (.bool false) w := Tryz.zeroValue4 w
theorem zero_52 (w : World) : (zeroValue 52).run Tryz.prog w = .ok (.agg #[(.int .i64 0), (.slice none 0 0), (.slice none 0 0)]) w := Tryz.zeroValue52 w
theorem zero_57 (w : World) : (zeroValue 57).run Tryz.prog w = .ok (.agg #[(Str.v ⟨[]⟩), (.int .i64 0), (.int .i64 0), (.int .i64 0)]) w := Tryz.zeroValue57 w
theorem zero_77 (w : World) : (zeroValue 77).run Tryz.prog w = .ok (.slice none 0 0) w := Tryz.zeroValue77 w
theorem zero_80 (w : World) : (zeroValue 80).run Tryz.prog w = .ok (.agg #[(Str.v ⟨[]⟩), (.int .i64 0), (.int .i64 0), (.bool false), (.slice none 0 0), (.slice none 0 0), (.slice none 0 0), (.slice none 0 0)]) w := Tryz.zeroValue80 w
end Go.Vw
