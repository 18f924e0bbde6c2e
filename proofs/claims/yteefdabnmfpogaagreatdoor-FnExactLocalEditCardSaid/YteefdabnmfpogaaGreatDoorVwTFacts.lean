import Derived.Test.YteefdabnmfpogaaGreatDoorVwData
import Derived.Test.YteefdabnmfpogaaGreatDoorVwMap
import Derived.Test.YteefdabnmfpogaaGreatDoorProg
set_option linter.unusedVariables false
namespace Go.Vw
open Go.RowKit Dat Go.Proofs
theorem mo : Tryz.prog.follows .mixedOrders = true := by kernel_rfl
theorem g_119 (w : World) : (isAgg 119).run Tryz.prog w = .ok false w := Tryz.isAgg119 w
theorem g_174 (w : World) : (isAgg 174).run Tryz.prog w = .ok true w := Tryz.isAgg174 w
theorem g_22 (w : World) : (isAgg 22).run Tryz.prog w = .ok false w := Tryz.isAgg22 w
theorem g_24 (w : World) : (isAgg 24).run Tryz.prog w = .ok true w := Tryz.isAgg24 w
theorem g_25 (w : World) : (isAgg 25).run Tryz.prog w = .ok false w := Tryz.isAgg25 w
theorem g_29 (w : World) : (isAgg 29).run Tryz.prog w = .ok false w := Tryz.isAgg29 w
theorem g_3 (w : World) : (isAgg 3).run Tryz.prog w = .ok false w := Tryz.isAgg3 w
theorem g_31 (w : World) : (isAgg 31).run Tryz.prog w = .ok true w := Tryz.isAgg31 w
theorem g_39 (w : World) : (isAgg 39).run Tryz.prog w = .ok false w := Tryz.isAgg39 w
theorem g_4 (w : World) : (isAgg 4).run Tryz.prog w = .ok false w := Tryz.isAgg4 w
theorem g_41 (w : World) : (isAgg 41).run Tryz.prog w = .ok true w := Tryz.isAgg41 w
theorem g_47 (w : World) : (isAgg 47).run Tryz.prog w = .ok false w := Tryz.isAgg47 w
theorem g_5 (w : World) : (isAgg 5).run Tryz.prog w = .ok false w := Tryz.isAgg5 w
theorem g_54 (w : World) : (isAgg 54).run Tryz.prog w = .ok true w := Tryz.isAgg54 w
theorem g_72 (w : World) : (isAgg 72).run Tryz.prog w = .ok false w := Tryz.isAgg72 w
theorem g_74 (w : World) : (isAgg 74).run Tryz.prog w = .ok true w := Tryz.isAgg74 w
theorem g_81 (w : World) : (isAgg 81).run Tryz.prog w = .ok true w := Tryz.isAgg81 w
theorem g_9 (w : World) : (isAgg 9).run Tryz.prog w = .ok false w := Tryz.isAgg9 w
theorem g_93 (w : World) : (isAgg 93).run Tryz.prog w = .ok false w := Tryz.isAgg93 w
theorem build_114 : BuildT Tryz.prog 114 [(.slice none 0 0), (.slice none 0 0)] [(0, 1), (1, 1)] := ⟨fun w => Tryz.zeroValue114 w, _, Tryz.underlying114, fun w => by simp [Tryz.sizeOf25, Tryz.sizeOf31]⟩
theorem build_123 : BuildT Tryz.prog 123 [(.int .i64 0), (.int .i64 0)] [(0, 1), (1, 1)] := ⟨fun w => Tryz.zeroValue123 w, _, Tryz.underlying123, fun w => by simp [Tryz.sizeOf3]⟩
theorem build_172 : BuildT Tryz.prog 172 [(.slice none 0 0), (.slice none 0 0), (.int .i64 0)] [(0, 1), (1, 1), (2, 1)] := ⟨fun w => Tryz.zeroValue172 w, _, Tryz.underlying172, fun w => by simp [Tryz.sizeOf25, Tryz.sizeOf3, Tryz.sizeOf31]⟩
theorem build_174 : BuildT Tryz.prog 174 [(.int .i64 0), (.int .i64 0)] [(0, 1), (1, 1)] := ⟨fun w => Tryz.zeroValue174 w, _, Tryz.underlying174, fun w => by simp [Tryz.sizeOf3]⟩
theorem build_41 : BuildT Tryz.prog 41 [(.int .i64 0), (.slice none 0 0), (.slice none 0 0)] [(0, 1), (1, 1), (2, 1)] := ⟨fun w => Tryz.zeroValue41 w, _, Tryz.underlying41, fun w => by simp [Tryz.sizeOf25, Tryz.sizeOf3, Tryz.sizeOf39]⟩
theorem build_54 : BuildT Tryz.prog 54 [(Str.v ⟨[]⟩), (.int .i64 0), (.int .i64 0), (.int .i64 0)] [(0, 1), (1, 1), (2, 1), (3, 1)] := ⟨fun w => Tryz.zeroValue54 w, _, Tryz.underlying54, fun w => by simp [Tryz.sizeOf3, Tryz.sizeOf9]⟩
theorem build_92 : BuildT Tryz.prog 92 [(.slice none 0 0), (.slice none 0 0), (.int .i64 0), (.int .i64 0)] [(0, 1), (1, 1), (2, 1), (3, 1)] := ⟨fun w => Tryz.zeroValue92 w, _, Tryz.underlying92, fun w => by simp [Tryz.sizeOf25, Tryz.sizeOf3, Tryz.sizeOf31]⟩
theorem el_25 : El Tryz.prog 25 5 1 1 (.int .u8 0) := ⟨Tryz.underlying25, by kernel_rfl, rfl, by decide, by decide⟩
theorem el_29 : El Tryz.prog 29 74 8 136 (.agg #[(Str.v ⟨[]⟩), (.int .i64 0), (.int .i64 0), (.bool false), (.slice none 0 0), (.slice none 0 0), (.slice none 0 0), (.slice none 0 0)]) := ⟨Tryz.underlying29, by kernel_rfl, rfl, by decide, by decide⟩
theorem el_39 : El Tryz.prog 39 41 3 56 (.agg #[(.int .i64 0), (.slice none 0 0), (.slice none 0 0)]) := ⟨Tryz.underlying39, by kernel_rfl, rfl, by decide, by decide⟩
theorem el_47 : El Tryz.prog 47 9 1 16 (Str.v ⟨[]⟩) := ⟨Tryz.underlying47, by kernel_rfl, rfl, by decide, by decide⟩
theorem el_72 : El Tryz.prog 72 3 1 8 (.int .i64 0) := ⟨Tryz.underlying72, by kernel_rfl, rfl, by decide, by decide⟩
theorem f_114_0 : Fld Tryz.prog 114 0 0 := ⟨_, _, Tryz.underlying114, rfl, rfl, 1, fun w => Tryz.sizeOf31 w, by decide⟩
theorem f_114_1 : Fld Tryz.prog 114 1 1 := ⟨_, _, Tryz.underlying114, rfl, rfl, 1, fun w => Tryz.sizeOf25 w, by decide⟩
theorem f_123_0 : Fld Tryz.prog 123 0 0 := ⟨_, _, Tryz.underlying123, rfl, rfl, 1, fun w => Tryz.sizeOf3 w, by decide⟩
theorem f_123_1 : Fld Tryz.prog 123 1 1 := ⟨_, _, Tryz.underlying123, rfl, rfl, 1, fun w => Tryz.sizeOf3 w, by decide⟩
theorem f_172_0 : Fld Tryz.prog 172 0 0 := ⟨_, _, Tryz.underlying172, rfl, rfl, 1, fun w => Tryz.sizeOf31 w, by decide⟩
theorem f_172_1 : Fld Tryz.prog 172 1 1 := ⟨_, _, Tryz.underlying172, rfl, rfl, 1, fun w => Tryz.sizeOf25 w, by decide⟩
theorem f_172_2 : Fld Tryz.prog 172 2 2 := ⟨_, _, Tryz.underlying172, rfl, rfl, 1, fun w => Tryz.sizeOf3 w, by decide⟩
theorem f_174_0 : Fld Tryz.prog 174 0 0 := ⟨_, _, Tryz.underlying174, rfl, rfl, 1, fun w => Tryz.sizeOf3 w, by decide⟩
theorem f_174_1 : Fld Tryz.prog 174 1 1 := ⟨_, _, Tryz.underlying174, rfl, rfl, 1, fun w => Tryz.sizeOf3 w, by decide⟩
theorem f_24_0 : Fld Tryz.prog 24 0 0 := ⟨_, _, Tryz.underlying24, rfl, rfl, 1, fun w => Tryz.sizeOf22 w, by decide⟩
theorem f_31_0 : Fld Tryz.prog 31 0 0 := ⟨_, _, Tryz.underlying31, rfl, rfl, 1, fun w => Tryz.sizeOf29 w, by decide⟩
theorem f_41_0 : Fld Tryz.prog 41 0 0 := ⟨_, _, Tryz.underlying41, rfl, rfl, 1, fun w => Tryz.sizeOf3 w, by decide⟩
theorem f_41_2 : Fld Tryz.prog 41 2 2 := ⟨_, _, Tryz.underlying41, rfl, rfl, 1, fun w => Tryz.sizeOf39 w, by decide⟩
theorem f_54_2 : Fld Tryz.prog 54 2 2 := ⟨_, _, Tryz.underlying54, rfl, rfl, 1, fun w => Tryz.sizeOf3 w, by decide⟩
theorem f_54_3 : Fld Tryz.prog 54 3 3 := ⟨_, _, Tryz.underlying54, rfl, rfl, 1, fun w => Tryz.sizeOf3 w, by decide⟩
theorem f_74_0 : Fld Tryz.prog 74 0 0 := ⟨_, _, Tryz.underlying74, rfl, rfl, 1, fun w => Tryz.sizeOf9 w, by decide⟩
theorem f_74_1 : Fld Tryz.prog 74 1 1 := ⟨_, _, Tryz.underlying74, rfl, rfl, 1, fun w => Tryz.sizeOf3 w, by decide⟩
theorem f_74_2 : Fld Tryz.prog 74 2 2 := ⟨_, _, Tryz.underlying74, rfl, rfl, 1, fun w => Tryz.sizeOf3 w, by decide⟩
theorem f_74_3 : Fld Tryz.prog 74 3 3 := ⟨_, _, Tryz.underlying74, rfl, rfl, 1, fun w => Tryz.sizeOf4 w, by decide⟩
theorem f_74_4 : Fld Tryz.prog 74 4 4 := ⟨_, _, Tryz.underlying74, rfl, rfl, 1, fun w => Tryz.sizeOf25 w, by decide⟩
theorem f_74_5 : Fld Tryz.prog 74 5 5 := ⟨_, _, Tryz.underlying74, rfl, rfl, 1, fun w => Tryz.sizeOf47 w, by decide⟩
theorem f_74_6 : Fld Tryz.prog 74 6 6 := ⟨_, _, Tryz.underlying74, rfl, rfl, 1, fun w => Tryz.sizeOf72 w, by decide⟩
theorem f_74_7 : Fld Tryz.prog 74 7 7 := ⟨_, _, Tryz.underlying74, rfl, rfl, 1, fun w => Tryz.sizeOf72 w, by decide⟩
theorem f_81_0 : Fld Tryz.prog 81 0 0 := ⟨_, _, Tryz.underlying81, rfl, rfl, 1, fun w => Tryz.sizeOf9 w, by decide⟩
theorem f_81_1 : Fld Tryz.prog 81 1 1 := ⟨_, _, Tryz.underlying81, rfl, rfl, 1, fun w => Tryz.sizeOf3 w, by decide⟩
theorem f_81_2 : Fld Tryz.prog 81 2 2 := ⟨_, _, Tryz.underlying81, rfl, rfl, 1, fun w => Tryz.sizeOf3 w, by decide⟩
theorem f_81_3 : Fld Tryz.prog 81 3 3 := ⟨_, _, Tryz.underlying81, rfl, rfl, 1, fun w => Tryz.sizeOf4 w, by decide⟩
theorem f_81_4 : Fld Tryz.prog 81 4 4 := ⟨_, _, Tryz.underlying81, rfl, rfl, 1, fun w => Tryz.sizeOf25 w, by decide⟩
theorem f_81_5 : Fld Tryz.prog 81 5 5 := ⟨_, _, Tryz.underlying81, rfl, rfl, 1, fun w => Tryz.sizeOf47 w, by decide⟩
theorem f_81_6 : Fld Tryz.prog 81 6 6 := ⟨_, _, Tryz.underlying81, rfl, rfl, 1, fun w => Tryz.sizeOf72 w, by decide⟩
theorem f_81_7 : Fld Tryz.prog 81 7 7 := ⟨_, _, Tryz.underlying81, rfl, rfl, 1, fun w => Tryz.sizeOf72 w, by decide⟩
theorem f_92_0 : Fld Tryz.prog 92 0 0 := ⟨_, _, Tryz.underlying92, rfl, rfl, 1, fun w => Tryz.sizeOf31 w, by decide⟩
theorem f_92_1 : Fld Tryz.prog 92 1 1 := ⟨_, _, Tryz.underlying92, rfl, rfl, 1, fun w => Tryz.sizeOf25 w, by decide⟩
theorem f_92_2 : Fld Tryz.prog 92 2 2 := ⟨_, _, Tryz.underlying92, rfl, rfl, 1, fun w => Tryz.sizeOf3 w, by decide⟩
theorem f_92_3 : Fld Tryz.prog 92 3 3 := ⟨_, _, Tryz.underlying92, rfl, rfl, 1, fun w => Tryz.sizeOf3 w, by decide⟩
theorem z_174 (w : World) : (sizeOf 174).run Tryz.prog w = .ok 2 w := Tryz.sizeOf174 w
theorem z_24 (w : World) : (sizeOf 24).run Tryz.prog w = .ok 1 w := Tryz.sizeOf24 w
theorem z_25 (w : World) : (sizeOf 25).run Tryz.prog w = .ok 1 w := Tryz.sizeOf25 w
theorem z_29 (w : World) : (sizeOf 29).run Tryz.prog w = .ok 1 w := Tryz.sizeOf29 w
theorem z_3 (w : World) : (sizeOf 3).run Tryz.prog w = .ok 1 w := Tryz.sizeOf3 w
theorem z_31 (w : World) : (sizeOf 31).run Tryz.prog w = .ok 1 w := Tryz.sizeOf31 w
theorem z_39 (w : World) : (sizeOf 39).run Tryz.prog w = .ok 1 w := Tryz.sizeOf39 w
theorem z_4 (w : World) : (sizeOf 4).run Tryz.prog w = .ok 1 w := Tryz.sizeOf4 w
theorem z_41 (w : World) : (sizeOf 41).run Tryz.prog w = .ok 3 w := Tryz.sizeOf41 w
theorem z_47 (w : World) : (sizeOf 47).run Tryz.prog w = .ok 1 w := Tryz.sizeOf47 w
theorem z_5 (w : World) : (sizeOf 5).run Tryz.prog w = .ok 1 w := Tryz.sizeOf5 w
theorem z_54 (w : World) : (sizeOf 54).run Tryz.prog w = .ok 4 w := Tryz.sizeOf54 w
theorem z_72 (w : World) : (sizeOf 72).run Tryz.prog w = .ok 1 w := Tryz.sizeOf72 w
theorem z_74 (w : World) : (sizeOf 74).run Tryz.prog w = .ok 8 w := Tryz.sizeOf74 w
theorem z_81 (w : World) : (sizeOf 81).run Tryz.prog w = .ok 8 w := Tryz.sizeOf81 w
theorem z_9 (w : World) : (sizeOf 9).run Tryz.prog w = .ok 1 w := Tryz.sizeOf9 w
abbrev d_116 := @Tryz.underlying116
abbrev d_119 := @Tryz.underlying119
abbrev d_121 := @Tryz.underlying121
abbrev d_22 := @Tryz.underlying22
abbrev d_25 := @Tryz.underlying25
abbrev d_29 := @Tryz.underlying29
abbrev d_3 := @Tryz.underlying3
abbrev d_4 := @Tryz.underlying4
abbrev d_47 := @Tryz.underlying47
abbrev d_5 := @Tryz.underlying5
abbrev d_72 := @Tryz.underlying72
abbrev d_9 := @Tryz.underlying9
theorem zero_119 (w : World) : (zeroValue 119).run Tryz.prog w = .ok (.pointer none) w := Tryz.zeroValue119 w
theorem zero_174 (w : World) : (zeroValue 174).run Tryz.prog w = .ok (.agg #[(.int .i64 0), (.int .i64 0)]) w := Tryz.zeroValue174 w
theorem zero_3 (w : World) : (zeroValue 3).run Tryz.prog w = .ok (.int .i64 0) w := Tryz.zeroValue3 w
theorem zero_31 (w : World) : (zeroValue 31).run Tryz.prog w = .ok (.agg #[(.slice none 0 0)]) w := Tryz.zeroValue31 w
theorem zero_4 (w : World) : (zeroValue 4).run Tryz.prog w = .ok (.bool false) w := Tryz.zeroValue4 w
theorem zero_41 (w : World) : (zeroValue 41).run Tryz.prog w = .ok (.agg #[(.int .i64 0), (.slice none 0 0), (.slice none 0 0)]) w := Tryz.zeroValue41 w
theorem zero_47 (w : World) : (zeroValue 47).run Tryz.prog w = .ok (.slice none 0 0) w := Tryz.zeroValue47 w
theorem zero_54 (w : World) : (zeroValue 54).run Tryz.prog w = .ok (.agg #[(Str.v ⟨[]⟩), (.int .i64 0), (.int .i64 0), (.int .i64 0)]) w := Tryz.zeroValue54 w
theorem zero_74 (w : World) : (zeroValue 74).run Tryz.prog w = .ok (.agg #[(Str.v ⟨[]⟩), (.int .i64 0), (.int .i64 0), (.bool false), (.slice none 0 0), (.slice none 0 0), (.slice none 0 0), (.slice none 0 0)]) w := Tryz.zeroValue74 w
end Go.Vw
