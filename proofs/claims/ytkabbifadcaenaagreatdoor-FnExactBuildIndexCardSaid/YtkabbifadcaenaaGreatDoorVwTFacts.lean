import Derived.Test.YtkabbifadcaenaaGreatDoorVwData
import Derived.Test.YtkabbifadcaenaaGreatDoorProg
set_option linter.unusedVariables false
namespace Go.Vw
open Go.RowKit Dat Go.Proofs
theorem mo : Tryz.prog.follows .mixedOrders = true := by kernel_rfl
theorem agg_125 (w : World) : (isAgg 125).run Tryz.prog w = .ok false w := Tryz.isAgg125 w
theorem agg_134 (w : World) : (isAgg 134).run Tryz.prog w = .ok true w := Tryz.isAgg134 w
theorem agg_22 (w : World) : (isAgg 22).run Tryz.prog w = .ok false w := Tryz.isAgg22 w
theorem agg_24 (w : World) : (isAgg 24).run Tryz.prog w = .ok true w := Tryz.isAgg24 w
theorem agg_25 (w : World) : (isAgg 25).run Tryz.prog w = .ok false w := Tryz.isAgg25 w
theorem agg_29 (w : World) : (isAgg 29).run Tryz.prog w = .ok false w := Tryz.isAgg29 w
theorem agg_3 (w : World) : (isAgg 3).run Tryz.prog w = .ok false w := Tryz.isAgg3 w
theorem agg_31 (w : World) : (isAgg 31).run Tryz.prog w = .ok true w := Tryz.isAgg31 w
theorem agg_39 (w : World) : (isAgg 39).run Tryz.prog w = .ok false w := Tryz.isAgg39 w
theorem agg_4 (w : World) : (isAgg 4).run Tryz.prog w = .ok false w := Tryz.isAgg4 w
theorem agg_47 (w : World) : (isAgg 47).run Tryz.prog w = .ok true w := Tryz.isAgg47 w
theorem agg_5 (w : World) : (isAgg 5).run Tryz.prog w = .ok false w := Tryz.isAgg5 w
theorem agg_59 (w : World) : (isAgg 59).run Tryz.prog w = .ok false w := Tryz.isAgg59 w
theorem agg_61 (w : World) : (isAgg 61).run Tryz.prog w = .ok true w := Tryz.isAgg61 w
theorem agg_72 (w : World) : (isAgg 72).run Tryz.prog w = .ok false w := Tryz.isAgg72 w
theorem agg_73 (w : World) : (isAgg 73).run Tryz.prog w = .ok false w := Tryz.isAgg73 w
theorem agg_75 (w : World) : (isAgg 75).run Tryz.prog w = .ok true w := Tryz.isAgg75 w
theorem agg_82 (w : World) : (isAgg 82).run Tryz.prog w = .ok true w := Tryz.isAgg82 w
theorem agg_9 (w : World) : (isAgg 9).run Tryz.prog w = .ok false w := Tryz.isAgg9 w
theorem build_120 : BuildT Tryz.prog 120 [(.slice none 0 0), (.slice none 0 0)] [(0, 1), (1, 1)] := ⟨fun w => Tryz.zeroValue120 w, _, Tryz.underlying120, fun w => by simp [Tryz.sizeOf25, Tryz.sizeOf31]⟩
theorem build_129 : BuildT Tryz.prog 129 [(.int .i64 0), (.int .i64 0)] [(0, 1), (1, 1)] := ⟨fun w => Tryz.zeroValue129 w, _, Tryz.underlying129, fun w => by simp [Tryz.sizeOf3]⟩
theorem build_132 : BuildT Tryz.prog 132 [(.slice none 0 0), (.slice none 0 0), (.int .i64 0)] [(0, 1), (1, 1), (2, 1)] := ⟨fun w => Tryz.zeroValue132 w, _, Tryz.underlying132, fun w => by simp [Tryz.sizeOf25, Tryz.sizeOf3, Tryz.sizeOf31]⟩
theorem build_134 : BuildT Tryz.prog 134 [(.int .i64 0), (.int .i64 0)] [(0, 1), (1, 1)] := ⟨fun w => Tryz.zeroValue134 w, _, Tryz.underlying134, fun w => by simp [Tryz.sizeOf3]⟩
theorem build_47 : BuildT Tryz.prog 47 [(Str.v ⟨[]⟩), (.int .i64 0), (.int .i64 0), (.int .i64 0)] [(0, 1), (1, 1), (2, 1), (3, 1)] := ⟨fun w => Tryz.zeroValue47 w, _, Tryz.underlying47, fun w => by simp [Tryz.sizeOf3, Tryz.sizeOf9]⟩
theorem build_61 : BuildT Tryz.prog 61 [(.int .i64 0), (.slice none 0 0), (.slice none 0 0)] [(0, 1), (1, 1), (2, 1)] := ⟨fun w => Tryz.zeroValue61 w, _, Tryz.underlying61, fun w => by simp [Tryz.sizeOf25, Tryz.sizeOf3, Tryz.sizeOf59]⟩
theorem build_66 : BuildT Tryz.prog 66 [(.slice none 0 0), (.slice none 0 0), (.slice none 0 0)] [(0, 1), (1, 1), (2, 1)] := ⟨fun w => Tryz.zeroValue66 w, _, Tryz.underlying66, fun w => by simp [Tryz.sizeOf25, Tryz.sizeOf31, Tryz.sizeOf39]⟩
theorem el_25 : El Tryz.prog 25 5 1 1 (.int .u8 0) := ⟨Tryz.underlying25, by kernel_rfl, rfl, by decide, by decide⟩
theorem el_29 : El Tryz.prog 29 82 8 136 (.agg #[(Str.v ⟨[]⟩), (.int .i64 0), (.int .i64 0), (.bool false), (.slice none 0 0), (.slice none 0 0), (.slice none 0 0), (.slice none 0 0)]) := ⟨Tryz.underlying29, by kernel_rfl, rfl, by decide, by decide⟩
theorem el_39 : El Tryz.prog 39 47 4 40 (.agg #[(Str.v ⟨[]⟩), (.int .i64 0), (.int .i64 0), (.int .i64 0)]) := ⟨Tryz.underlying39, by kernel_rfl, rfl, by decide, by decide⟩
theorem el_59 : El Tryz.prog 59 61 3 56 (.agg #[(.int .i64 0), (.slice none 0 0), (.slice none 0 0)]) := ⟨Tryz.underlying59, by kernel_rfl, rfl, by decide, by decide⟩
theorem el_72 : El Tryz.prog 72 9 1 16 (Str.v ⟨[]⟩) := ⟨Tryz.underlying72, by kernel_rfl, rfl, by decide, by decide⟩
theorem el_73 : El Tryz.prog 73 3 1 8 (.int .i64 0) := ⟨Tryz.underlying73, by kernel_rfl, rfl, by decide, by decide⟩
theorem fld_120_0 : Fld Tryz.prog 120 0 0 := ⟨_, _, Tryz.underlying120, rfl, rfl, 1, fun w => Tryz.sizeOf31 w, by decide⟩
theorem fld_120_1 : Fld Tryz.prog 120 1 1 := ⟨_, _, Tryz.underlying120, rfl, rfl, 1, fun w => Tryz.sizeOf25 w, by decide⟩
theorem fld_129_0 : Fld Tryz.prog 129 0 0 := ⟨_, _, Tryz.underlying129, rfl, rfl, 1, fun w => Tryz.sizeOf3 w, by decide⟩
theorem fld_129_1 : Fld Tryz.prog 129 1 1 := ⟨_, _, Tryz.underlying129, rfl, rfl, 1, fun w => Tryz.sizeOf3 w, by decide⟩
theorem fld_132_0 : Fld Tryz.prog 132 0 0 := ⟨_, _, Tryz.underlying132, rfl, rfl, 1, fun w => Tryz.sizeOf31 w, by decide⟩
theorem fld_132_1 : Fld Tryz.prog 132 1 1 := ⟨_, _, Tryz.underlying132, rfl, rfl, 1, fun w => Tryz.sizeOf25 w, by decide⟩
theorem fld_132_2 : Fld Tryz.prog 132 2 2 := ⟨_, _, Tryz.underlying132, rfl, rfl, 1, fun w => Tryz.sizeOf3 w, by decide⟩
theorem fld_134_0 : Fld Tryz.prog 134 0 0 := ⟨_, _, Tryz.underlying134, rfl, rfl, 1, fun w => Tryz.sizeOf3 w, by decide⟩
theorem fld_134_1 : Fld Tryz.prog 134 1 1 := ⟨_, _, Tryz.underlying134, rfl, rfl, 1, fun w => Tryz.sizeOf3 w, by decide⟩
theorem fld_24_0 : Fld Tryz.prog 24 0 0 := ⟨_, _, Tryz.underlying24, rfl, rfl, 1, fun w => Tryz.sizeOf22 w, by decide⟩
theorem fld_31_0 : Fld Tryz.prog 31 0 0 := ⟨_, _, Tryz.underlying31, rfl, rfl, 1, fun w => Tryz.sizeOf29 w, by decide⟩
theorem fld_47_0 : Fld Tryz.prog 47 0 0 := ⟨_, _, Tryz.underlying47, rfl, rfl, 1, fun w => Tryz.sizeOf9 w, by decide⟩
theorem fld_47_1 : Fld Tryz.prog 47 1 1 := ⟨_, _, Tryz.underlying47, rfl, rfl, 1, fun w => Tryz.sizeOf3 w, by decide⟩
theorem fld_47_2 : Fld Tryz.prog 47 2 2 := ⟨_, _, Tryz.underlying47, rfl, rfl, 1, fun w => Tryz.sizeOf3 w, by decide⟩
theorem fld_47_3 : Fld Tryz.prog 47 3 3 := ⟨_, _, Tryz.underlying47, rfl, rfl, 1, fun w => Tryz.sizeOf3 w, by decide⟩
theorem fld_61_0 : Fld Tryz.prog 61 0 0 := ⟨_, _, Tryz.underlying61, rfl, rfl, 1, fun w => Tryz.sizeOf3 w, by decide⟩
theorem fld_61_2 : Fld Tryz.prog 61 2 2 := ⟨_, _, Tryz.underlying61, rfl, rfl, 1, fun w => Tryz.sizeOf59 w, by decide⟩
theorem fld_66_0 : Fld Tryz.prog 66 0 0 := ⟨_, _, Tryz.underlying66, rfl, rfl, 1, fun w => Tryz.sizeOf31 w, by decide⟩
theorem fld_66_1 : Fld Tryz.prog 66 1 1 := ⟨_, _, Tryz.underlying66, rfl, rfl, 1, fun w => Tryz.sizeOf25 w, by decide⟩
theorem fld_66_2 : Fld Tryz.prog 66 2 2 := ⟨_, _, Tryz.underlying66, rfl, rfl, 1, fun w => Tryz.sizeOf39 w, by decide⟩
theorem fld_75_0 : Fld Tryz.prog 75 0 0 := ⟨_, _, Tryz.underlying75, rfl, rfl, 1, fun w => Tryz.sizeOf9 w, by decide⟩
theorem fld_75_1 : Fld Tryz.prog 75 1 1 := ⟨_, _, Tryz.underlying75, rfl, rfl, 1, fun w => Tryz.sizeOf3 w, by decide⟩
theorem fld_75_2 : Fld Tryz.prog 75 2 2 := ⟨_, _, Tryz.underlying75, rfl, rfl, 1, fun w => Tryz.sizeOf3 w, by decide⟩
theorem fld_75_3 : Fld Tryz.prog 75 3 3 := ⟨_, _, Tryz.underlying75, rfl, rfl, 1, fun w => Tryz.sizeOf4 w, by decide⟩
theorem fld_75_4 : Fld Tryz.prog 75 4 4 := ⟨_, _, Tryz.underlying75, rfl, rfl, 1, fun w => Tryz.sizeOf25 w, by decide⟩
theorem fld_75_5 : Fld Tryz.prog 75 5 5 := ⟨_, _, Tryz.underlying75, rfl, rfl, 1, fun w => Tryz.sizeOf72 w, by decide⟩
theorem fld_75_6 : Fld Tryz.prog 75 6 6 := ⟨_, _, Tryz.underlying75, rfl, rfl, 1, fun w => Tryz.sizeOf73 w, by decide⟩
theorem fld_75_7 : Fld Tryz.prog 75 7 7 := ⟨_, _, Tryz.underlying75, rfl, rfl, 1, fun w => Tryz.sizeOf73 w, by decide⟩
theorem fld_82_0 : Fld Tryz.prog 82 0 0 := ⟨_, _, Tryz.underlying82, rfl, rfl, 1, fun w => Tryz.sizeOf9 w, by decide⟩
theorem fld_82_1 : Fld Tryz.prog 82 1 1 := ⟨_, _, Tryz.underlying82, rfl, rfl, 1, fun w => Tryz.sizeOf3 w, by decide⟩
theorem fld_82_2 : Fld Tryz.prog 82 2 2 := ⟨_, _, Tryz.underlying82, rfl, rfl, 1, fun w => Tryz.sizeOf3 w, by decide⟩
theorem fld_82_3 : Fld Tryz.prog 82 3 3 := ⟨_, _, Tryz.underlying82, rfl, rfl, 1, fun w => Tryz.sizeOf4 w, by decide⟩
theorem fld_82_4 : Fld Tryz.prog 82 4 4 := ⟨_, _, Tryz.underlying82, rfl, rfl, 1, fun w => Tryz.sizeOf25 w, by decide⟩
theorem fld_82_5 : Fld Tryz.prog 82 5 5 := ⟨_, _, Tryz.underlying82, rfl, rfl, 1, fun w => Tryz.sizeOf72 w, by decide⟩
theorem fld_82_6 : Fld Tryz.prog 82 6 6 := ⟨_, _, Tryz.underlying82, rfl, rfl, 1, fun w => Tryz.sizeOf73 w, by decide⟩
theorem fld_82_7 : Fld Tryz.prog 82 7 7 := ⟨_, _, Tryz.underlying82, rfl, rfl, 1, fun w => Tryz.sizeOf73 w, by decide⟩
theorem size_134 (w : World) : (sizeOf 134).run Tryz.prog w = .ok 2 w := Tryz.sizeOf134 w
theorem size_24 (w : World) : (sizeOf 24).run Tryz.prog w = .ok 1 w := Tryz.sizeOf24 w
theorem size_25 (w : World) : (sizeOf 25).run Tryz.prog w = .ok 1 w := Tryz.sizeOf25 w
theorem size_29 (w : World) : (sizeOf 29).run Tryz.prog w = .ok 1 w := Tryz.sizeOf29 w
theorem size_3 (w : World) : (sizeOf 3).run Tryz.prog w = .ok 1 w := Tryz.sizeOf3 w
theorem size_31 (w : World) : (sizeOf 31).run Tryz.prog w = .ok 1 w := Tryz.sizeOf31 w
theorem size_39 (w : World) : (sizeOf 39).run Tryz.prog w = .ok 1 w := Tryz.sizeOf39 w
theorem size_4 (w : World) : (sizeOf 4).run Tryz.prog w = .ok 1 w := Tryz.sizeOf4 w
theorem size_47 (w : World) : (sizeOf 47).run Tryz.prog w = .ok 4 w := Tryz.sizeOf47 w
theorem size_5 (w : World) : (sizeOf 5).run Tryz.prog w = .ok 1 w := Tryz.sizeOf5 w
theorem size_59 (w : World) : (sizeOf 59).run Tryz.prog w = .ok 1 w := Tryz.sizeOf59 w
theorem size_61 (w : World) : (sizeOf 61).run Tryz.prog w = .ok 3 w := Tryz.sizeOf61 w
theorem size_72 (w : World) : (sizeOf 72).run Tryz.prog w = .ok 1 w := Tryz.sizeOf72 w
theorem size_73 (w : World) : (sizeOf 73).run Tryz.prog w = .ok 1 w := Tryz.sizeOf73 w
theorem size_75 (w : World) : (sizeOf 75).run Tryz.prog w = .ok 8 w := Tryz.sizeOf75 w
theorem size_82 (w : World) : (sizeOf 82).run Tryz.prog w = .ok 8 w := Tryz.sizeOf82 w
theorem size_9 (w : World) : (sizeOf 9).run Tryz.prog w = .ok 1 w := Tryz.sizeOf9 w
abbrev und_122 := @Tryz.underlying122
abbrev und_125 := @Tryz.underlying125
abbrev und_127 := @Tryz.underlying127
abbrev und_22 := @Tryz.underlying22
abbrev und_25 := @Tryz.underlying25
abbrev und_29 := @Tryz.underlying29
abbrev und_3 := @Tryz.underlying3
abbrev und_39 := @Tryz.underlying39
abbrev und_4 := @Tryz.underlying4
abbrev und_5 := @Tryz.underlying5
abbrev und_59 := @Tryz.underlying59
abbrev und_72 := @Tryz.underlying72
abbrev und_73 := @Tryz.underlying73
abbrev und_9 := @Tryz.underlying9
theorem zero_125 (w : World) : (zeroValue 125).run Tryz.prog w = .ok (.pointer none) w := Tryz.zeroValue125 w
theorem zero_134 (w : World) : (zeroValue 134).run Tryz.prog w = .ok (.agg #[(.int .i64 0), (.int .i64 0)]) w := Tryz.zeroValue134 w
theorem zero_31 (w : World) : (zeroValue 31).run Tryz.prog w = .ok (.agg #[(.slice none 0 0)]) w := Tryz.zeroValue31 w
theorem zero_61 (w : World) : (zeroValue 61).run Tryz.prog w = .ok (.agg #[(.int .i64 0), (.slice none 0 0), (.slice none 0 0)]) w := Tryz.zeroValue61 w
theorem zero_82 (w : World) : (zeroValue 82).run Tryz.prog w = .ok (.agg #[(Str.v ⟨[]⟩), (.int .i64 0), (.int .i64 0), (.bool false), (.slice none 0 0), (.slice none 0 0), (.slice none 0 0), (.slice none 0 0)]) w := Tryz.zeroValue82 w
end Go.Vw
