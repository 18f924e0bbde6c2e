import Derived.Test.YtpbfnngknnpgoaaGreatDoorVwData
import Derived.Test.YtpbfnngknnpgoaaGreatDoorProg
set_option linter.unusedVariables false
namespace Go.Vw
open Go.RowKit Dat Go.Proofs
theorem mo : Tryz.prog.follows .mixedOrders = true := by kernel_rfl
theorem g_113 (w : World) : (isAgg 113).run Tryz.prog w = .ok false w := Tryz.isAgg113 w
theorem g_122 (w : World) : (isAgg 122).run Tryz.prog w = .ok true w := Tryz.isAgg122 w
theorem g_22 (w : World) : (isAgg 22).run Tryz.prog w = .ok false w := Tryz.isAgg22 w
theorem g_24 (w : World) : (isAgg 24).run Tryz.prog w = .ok true w := Tryz.isAgg24 w
theorem g_26 (w : World) : (isAgg 26).run Tryz.prog w = .ok false w := Tryz.isAgg26 w
theorem g_29 (w : World) : (isAgg 29).run Tryz.prog w = .ok false w := Tryz.isAgg29 w
theorem g_3 (w : World) : (isAgg 3).run Tryz.prog w = .ok false w := Tryz.isAgg3 w
theorem g_32 (w : World) : (isAgg 32).run Tryz.prog w = .ok false w := Tryz.isAgg32 w
theorem g_34 (w : World) : (isAgg 34).run Tryz.prog w = .ok true w := Tryz.isAgg34 w
theorem g_4 (w : World) : (isAgg 4).run Tryz.prog w = .ok false w := Tryz.isAgg4 w
theorem g_48 (w : World) : (isAgg 48).run Tryz.prog w = .ok true w := Tryz.isAgg48 w
theorem g_5 (w : World) : (isAgg 5).run Tryz.prog w = .ok false w := Tryz.isAgg5 w
theorem g_55 (w : World) : (isAgg 55).run Tryz.prog w = .ok true w := Tryz.isAgg55 w
theorem g_62 (w : World) : (isAgg 62).run Tryz.prog w = .ok false w := Tryz.isAgg62 w
theorem g_63 (w : World) : (isAgg 63).run Tryz.prog w = .ok false w := Tryz.isAgg63 w
theorem g_65 (w : World) : (isAgg 65).run Tryz.prog w = .ok true w := Tryz.isAgg65 w
theorem g_70 (w : World) : (isAgg 70).run Tryz.prog w = .ok true w := Tryz.isAgg70 w
theorem g_72 (w : World) : (isAgg 72).run Tryz.prog w = .ok false w := Tryz.isAgg72 w
theorem g_74 (w : World) : (isAgg 74).run Tryz.prog w = .ok true w := Tryz.isAgg74 w
theorem g_9 (w : World) : (isAgg 9).run Tryz.prog w = .ok false w := Tryz.isAgg9 w
theorem build_108 : BuildT Tryz.prog 108 [(.slice none 0 0), (.slice none 0 0)] [(0, 1), (1, 1)] := ⟨fun w => Tryz.zeroValue108 w, _, Tryz.underlying108, fun w => by simp [Tryz.sizeOf26, Tryz.sizeOf34]⟩
theorem build_117 : BuildT Tryz.prog 117 [(.int .i64 0), (.int .i64 0)] [(0, 1), (1, 1)] := ⟨fun w => Tryz.zeroValue117 w, _, Tryz.underlying117, fun w => by simp [Tryz.sizeOf3]⟩
theorem build_120 : BuildT Tryz.prog 120 [(.slice none 0 0), (.slice none 0 0), (.int .i64 0)] [(0, 1), (1, 1), (2, 1)] := ⟨fun w => Tryz.zeroValue120 w, _, Tryz.underlying120, fun w => by simp [Tryz.sizeOf26, Tryz.sizeOf3, Tryz.sizeOf34]⟩
theorem build_122 : BuildT Tryz.prog 122 [(.int .i64 0), (.int .i64 0)] [(0, 1), (1, 1)] := ⟨fun w => Tryz.zeroValue122 w, _, Tryz.underlying122, fun w => by simp [Tryz.sizeOf3]⟩
theorem build_55 : BuildT Tryz.prog 55 [(Str.v ⟨[]⟩), (.int .i64 0), (.int .i64 0), (.int .i64 0)] [(0, 1), (1, 1), (2, 1), (3, 1)] := ⟨fun w => Tryz.zeroValue55 w, _, Tryz.underlying55, fun w => by simp [Tryz.sizeOf3, Tryz.sizeOf9]⟩
theorem build_74 : BuildT Tryz.prog 74 [(.int .i64 0), (.slice none 0 0), (.slice none 0 0)] [(0, 1), (1, 1), (2, 1)] := ⟨fun w => Tryz.zeroValue74 w, _, Tryz.underlying74, fun w => by simp [Tryz.sizeOf26, Tryz.sizeOf3, Tryz.sizeOf72]⟩
theorem build_79 : BuildT Tryz.prog 79 [(.slice none 0 0), (.slice none 0 0), (.slice none 0 0)] [(0, 1), (1, 1), (2, 1)] := ⟨fun w => Tryz.zeroValue79 w, _, Tryz.underlying79, fun w => by simp [Tryz.sizeOf26, Tryz.sizeOf29, Tryz.sizeOf34]⟩
theorem el_26 : El Tryz.prog 26 5 1 1 (.int .u8 0) := ⟨Tryz.underlying26, by kernel_rfl, rfl, by decide, by decide⟩
theorem el_29 : El Tryz.prog 29 55 4 40 (.agg #[(Str.v ⟨[]⟩), (.int .i64 0), (.int .i64 0), (.int .i64 0)]) := ⟨Tryz.underlying29, by kernel_rfl, rfl, by decide, by decide⟩
theorem el_32 : El Tryz.prog 32 70 8 136 (.agg #[(Str.v ⟨[]⟩), (.int .i64 0), (.int .i64 0), (.bool false), (.slice none 0 0), (.slice none 0 0), (.slice none 0 0), (.slice none 0 0)]) := ⟨Tryz.underlying32, by kernel_rfl, rfl, by decide, by decide⟩
theorem el_62 : El Tryz.prog 62 9 1 16 (Str.v ⟨[]⟩) := ⟨Tryz.underlying62, by kernel_rfl, rfl, by decide, by decide⟩
theorem el_63 : El Tryz.prog 63 3 1 8 (.int .i64 0) := ⟨Tryz.underlying63, by kernel_rfl, rfl, by decide, by decide⟩
theorem el_72 : El Tryz.prog 72 74 3 56 (.agg #[(.int .i64 0), (.slice none 0 0), (.slice none 0 0)]) := ⟨Tryz.underlying72, by kernel_rfl, rfl, by decide, by decide⟩
theorem f_108_0 : Fld Tryz.prog 108 0 0 := ⟨_, _, Tryz.underlying108, rfl, rfl, 1, fun w => Tryz.sizeOf34 w, by decide⟩
theorem f_108_1 : Fld Tryz.prog 108 1 1 := ⟨_, _, Tryz.underlying108, rfl, rfl, 1, fun w => Tryz.sizeOf26 w, by decide⟩
theorem f_117_0 : Fld Tryz.prog 117 0 0 := ⟨_, _, Tryz.underlying117, rfl, rfl, 1, fun w => Tryz.sizeOf3 w, by decide⟩
theorem f_117_1 : Fld Tryz.prog 117 1 1 := ⟨_, _, Tryz.underlying117, rfl, rfl, 1, fun w => Tryz.sizeOf3 w, by decide⟩
theorem f_120_0 : Fld Tryz.prog 120 0 0 := ⟨_, _, Tryz.underlying120, rfl, rfl, 1, fun w => Tryz.sizeOf34 w, by decide⟩
theorem f_120_1 : Fld Tryz.prog 120 1 1 := ⟨_, _, Tryz.underlying120, rfl, rfl, 1, fun w => Tryz.sizeOf26 w, by decide⟩
theorem f_120_2 : Fld Tryz.prog 120 2 2 := ⟨_, _, Tryz.underlying120, rfl, rfl, 1, fun w => Tryz.sizeOf3 w, by decide⟩
theorem f_122_0 : Fld Tryz.prog 122 0 0 := ⟨_, _, Tryz.underlying122, rfl, rfl, 1, fun w => Tryz.sizeOf3 w, by decide⟩
theorem f_122_1 : Fld Tryz.prog 122 1 1 := ⟨_, _, Tryz.underlying122, rfl, rfl, 1, fun w => Tryz.sizeOf3 w, by decide⟩
theorem f_24_0 : Fld Tryz.prog 24 0 0 := ⟨_, _, Tryz.underlying24, rfl, rfl, 1, fun w => Tryz.sizeOf22 w, by decide⟩
theorem f_34_0 : Fld Tryz.prog 34 0 0 := ⟨_, _, Tryz.underlying34, rfl, rfl, 1, fun w => Tryz.sizeOf32 w, by decide⟩
theorem f_48_0 : Fld Tryz.prog 48 0 0 := ⟨_, _, Tryz.underlying48, rfl, rfl, 1, fun w => Tryz.sizeOf9 w, by decide⟩
theorem f_48_1 : Fld Tryz.prog 48 1 1 := ⟨_, _, Tryz.underlying48, rfl, rfl, 1, fun w => Tryz.sizeOf3 w, by decide⟩
theorem f_48_2 : Fld Tryz.prog 48 2 2 := ⟨_, _, Tryz.underlying48, rfl, rfl, 1, fun w => Tryz.sizeOf3 w, by decide⟩
theorem f_48_3 : Fld Tryz.prog 48 3 3 := ⟨_, _, Tryz.underlying48, rfl, rfl, 1, fun w => Tryz.sizeOf3 w, by decide⟩
theorem f_55_0 : Fld Tryz.prog 55 0 0 := ⟨_, _, Tryz.underlying55, rfl, rfl, 1, fun w => Tryz.sizeOf9 w, by decide⟩
theorem f_55_1 : Fld Tryz.prog 55 1 1 := ⟨_, _, Tryz.underlying55, rfl, rfl, 1, fun w => Tryz.sizeOf3 w, by decide⟩
theorem f_55_2 : Fld Tryz.prog 55 2 2 := ⟨_, _, Tryz.underlying55, rfl, rfl, 1, fun w => Tryz.sizeOf3 w, by decide⟩
theorem f_55_3 : Fld Tryz.prog 55 3 3 := ⟨_, _, Tryz.underlying55, rfl, rfl, 1, fun w => Tryz.sizeOf3 w, by decide⟩
theorem f_65_0 : Fld Tryz.prog 65 0 0 := ⟨_, _, Tryz.underlying65, rfl, rfl, 1, fun w => Tryz.sizeOf9 w, by decide⟩
theorem f_65_1 : Fld Tryz.prog 65 1 1 := ⟨_, _, Tryz.underlying65, rfl, rfl, 1, fun w => Tryz.sizeOf3 w, by decide⟩
theorem f_65_2 : Fld Tryz.prog 65 2 2 := ⟨_, _, Tryz.underlying65, rfl, rfl, 1, fun w => Tryz.sizeOf3 w, by decide⟩
theorem f_65_3 : Fld Tryz.prog 65 3 3 := ⟨_, _, Tryz.underlying65, rfl, rfl, 1, fun w => Tryz.sizeOf4 w, by decide⟩
theorem f_65_4 : Fld Tryz.prog 65 4 4 := ⟨_, _, Tryz.underlying65, rfl, rfl, 1, fun w => Tryz.sizeOf26 w, by decide⟩
theorem f_65_5 : Fld Tryz.prog 65 5 5 := ⟨_, _, Tryz.underlying65, rfl, rfl, 1, fun w => Tryz.sizeOf62 w, by decide⟩
theorem f_65_6 : Fld Tryz.prog 65 6 6 := ⟨_, _, Tryz.underlying65, rfl, rfl, 1, fun w => Tryz.sizeOf63 w, by decide⟩
theorem f_65_7 : Fld Tryz.prog 65 7 7 := ⟨_, _, Tryz.underlying65, rfl, rfl, 1, fun w => Tryz.sizeOf63 w, by decide⟩
theorem f_70_0 : Fld Tryz.prog 70 0 0 := ⟨_, _, Tryz.underlying70, rfl, rfl, 1, fun w => Tryz.sizeOf9 w, by decide⟩
theorem f_70_1 : Fld Tryz.prog 70 1 1 := ⟨_, _, Tryz.underlying70, rfl, rfl, 1, fun w => Tryz.sizeOf3 w, by decide⟩
theorem f_70_2 : Fld Tryz.prog 70 2 2 := ⟨_, _, Tryz.underlying70, rfl, rfl, 1, fun w => Tryz.sizeOf3 w, by decide⟩
theorem f_70_3 : Fld Tryz.prog 70 3 3 := ⟨_, _, Tryz.underlying70, rfl, rfl, 1, fun w => Tryz.sizeOf4 w, by decide⟩
theorem f_70_4 : Fld Tryz.prog 70 4 4 := ⟨_, _, Tryz.underlying70, rfl, rfl, 1, fun w => Tryz.sizeOf26 w, by decide⟩
theorem f_70_5 : Fld Tryz.prog 70 5 5 := ⟨_, _, Tryz.underlying70, rfl, rfl, 1, fun w => Tryz.sizeOf62 w, by decide⟩
theorem f_70_6 : Fld Tryz.prog 70 6 6 := ⟨_, _, Tryz.underlying70, rfl, rfl, 1, fun w => Tryz.sizeOf63 w, by decide⟩
theorem f_70_7 : Fld Tryz.prog 70 7 7 := ⟨_, _, Tryz.underlying70, rfl, rfl, 1, fun w => Tryz.sizeOf63 w, by decide⟩
theorem f_74_0 : Fld Tryz.prog 74 0 0 := ⟨_, _, Tryz.underlying74, rfl, rfl, 1, fun w => Tryz.sizeOf3 w, by decide⟩
theorem f_74_2 : Fld Tryz.prog 74 2 2 := ⟨_, _, Tryz.underlying74, rfl, rfl, 1, fun w => Tryz.sizeOf72 w, by decide⟩
theorem f_79_0 : Fld Tryz.prog 79 0 0 := ⟨_, _, Tryz.underlying79, rfl, rfl, 1, fun w => Tryz.sizeOf34 w, by decide⟩
theorem f_79_1 : Fld Tryz.prog 79 1 1 := ⟨_, _, Tryz.underlying79, rfl, rfl, 1, fun w => Tryz.sizeOf26 w, by decide⟩
theorem f_79_2 : Fld Tryz.prog 79 2 2 := ⟨_, _, Tryz.underlying79, rfl, rfl, 1, fun w => Tryz.sizeOf29 w, by decide⟩
theorem z_122 (w : World) : (sizeOf 122).run Tryz.prog w = .ok 2 w := Tryz.sizeOf122 w
theorem z_24 (w : World) : (sizeOf 24).run Tryz.prog w = .ok 1 w := Tryz.sizeOf24 w
theorem z_26 (w : World) : (sizeOf 26).run Tryz.prog w = .ok 1 w := Tryz.sizeOf26 w
theorem z_29 (w : World) : (sizeOf 29).run Tryz.prog w = .ok 1 w := Tryz.sizeOf29 w
theorem z_3 (w : World) : (sizeOf 3).run Tryz.prog w = .ok 1 w := Tryz.sizeOf3 w
theorem z_32 (w : World) : (sizeOf 32).run Tryz.prog w = .ok 1 w := Tryz.sizeOf32 w
theorem z_34 (w : World) : (sizeOf 34).run Tryz.prog w = .ok 1 w := Tryz.sizeOf34 w
theorem z_4 (w : World) : (sizeOf 4).run Tryz.prog w = .ok 1 w := Tryz.sizeOf4 w
theorem z_48 (w : World) : (sizeOf 48).run Tryz.prog w = .ok 4 w := Tryz.sizeOf48 w
theorem z_5 (w : World) : (sizeOf 5).run Tryz.prog w = .ok 1 w := Tryz.sizeOf5 w
theorem z_55 (w : World) : (sizeOf 55).run Tryz.prog w = .ok 4 w := Tryz.sizeOf55 w
theorem z_62 (w : World) : (sizeOf 62).run Tryz.prog w = .ok 1 w := Tryz.sizeOf62 w
theorem z_63 (w : World) : (sizeOf 63).run Tryz.prog w = .ok 1 w := Tryz.sizeOf63 w
theorem z_65 (w : World) : (sizeOf 65).run Tryz.prog w = .ok 8 w := Tryz.sizeOf65 w
theorem z_70 (w : World) : (sizeOf 70).run Tryz.prog w = .ok 8 w := Tryz.sizeOf70 w
theorem z_72 (w : World) : (sizeOf 72).run Tryz.prog w = .ok 1 w := Tryz.sizeOf72 w
theorem z_74 (w : World) : (sizeOf 74).run Tryz.prog w = .ok 3 w := Tryz.sizeOf74 w
theorem z_9 (w : World) : (sizeOf 9).run Tryz.prog w = .ok 1 w := Tryz.sizeOf9 w
abbrev d_110 := @Tryz.underlying110
abbrev d_113 := @Tryz.underlying113
abbrev d_115 := @Tryz.underlying115
abbrev d_22 := @Tryz.underlying22
abbrev d_25 := @Tryz.underlying25
abbrev d_26 := @Tryz.underlying26
abbrev d_29 := @Tryz.underlying29
abbrev d_3 := @Tryz.underlying3
abbrev d_32 := @Tryz.underlying32
abbrev d_4 := @Tryz.underlying4
abbrev d_5 := @Tryz.underlying5
abbrev d_62 := @Tryz.underlying62
abbrev d_63 := @Tryz.underlying63
abbrev d_72 := @Tryz.underlying72
abbrev d_9 := @Tryz.underlying9
theorem zero_113 (w : World) : (zeroValue 113).run Tryz.prog w = .ok (.pointer none) w := Tryz.zeroValue113 w
theorem zero_122 (w : World) : (zeroValue 122).run Tryz.prog w = .ok (.agg #[(.int .i64 0), (.int .i64 0)]) w := Tryz.zeroValue122 w
theorem zero_34 (w : World) : (zeroValue 34).run Tryz.prog w = .ok (.agg #[(.slice none 0 0)]) w := Tryz.zeroValue34 w
theorem zero_55 (w : World) : (zeroValue 55).run Tryz.prog w = .ok (.agg #[(Str.v ⟨[]⟩), (.int .i64 0), (.int .i64 0), (.int .i64 0)]) w := Tryz.zeroValue55 w
theorem zero_70 (w : World) : (zeroValue 70).run Tryz.prog w = .ok (.agg #[(Str.v ⟨[]⟩), (.int .i64 0), (.int .i64 0), (.bool false), (.slice none 0 0), (.slice none 0 0), (.slice none 0 0), (.slice none 0 0)]) w := Tryz.zeroValue70 w
theorem zero_74 (w : World) : (zeroValue 74).run Tryz.prog w = .ok (.agg #[(.int .i64 0), (.slice none 0 0), (.slice none 0 0)]) w := Tryz.zeroValue74 w
end Go.Vw
