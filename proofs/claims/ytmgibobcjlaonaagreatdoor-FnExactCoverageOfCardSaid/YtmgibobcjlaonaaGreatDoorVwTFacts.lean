import Derived.Test.YtmgibobcjlaonaaGreatDoorVwData
import Derived.Test.YtmgibobcjlaonaaGreatDoorProg
set_option linter.unusedVariables false
namespace Go.Vw
open Go.RowKit Dat Go.Proofs
theorem mo : Tryz.prog.follows .mixedOrders = true := by kernel_rfl
theorem agg_100 (w : World) : (isAgg 100).run Tryz.prog w = .ok false w := Tryz.isAgg100 w
theorem agg_109 (w : World) : (isAgg 109).run Tryz.prog w = .ok true w := Tryz.isAgg109 w
theorem agg_22 (w : World) : (isAgg 22).run Tryz.prog w = .ok false w := Tryz.isAgg22 w
theorem agg_24 (w : World) : (isAgg 24).run Tryz.prog w = .ok true w := Tryz.isAgg24 w
theorem agg_25 (w : World) : (isAgg 25).run Tryz.prog w = .ok false w := Tryz.isAgg25 w
theorem agg_27 (w : World) : (isAgg 27).run Tryz.prog w = .ok false w := Tryz.isAgg27 w
theorem agg_29 (w : World) : (isAgg 29).run Tryz.prog w = .ok false w := Tryz.isAgg29 w
theorem agg_3 (w : World) : (isAgg 3).run Tryz.prog w = .ok false w := Tryz.isAgg3 w
theorem agg_31 (w : World) : (isAgg 31).run Tryz.prog w = .ok true w := Tryz.isAgg31 w
theorem agg_4 (w : World) : (isAgg 4).run Tryz.prog w = .ok false w := Tryz.isAgg4 w
theorem agg_42 (w : World) : (isAgg 42).run Tryz.prog w = .ok false w := Tryz.isAgg42 w
theorem agg_46 (w : World) : (isAgg 46).run Tryz.prog w = .ok true w := Tryz.isAgg46 w
theorem agg_5 (w : World) : (isAgg 5).run Tryz.prog w = .ok false w := Tryz.isAgg5 w
theorem agg_51 (w : World) : (isAgg 51).run Tryz.prog w = .ok false w := Tryz.isAgg51 w
theorem agg_53 (w : World) : (isAgg 53).run Tryz.prog w = .ok true w := Tryz.isAgg53 w
theorem agg_58 (w : World) : (isAgg 58).run Tryz.prog w = .ok true w := Tryz.isAgg58 w
theorem agg_60 (w : World) : (isAgg 60).run Tryz.prog w = .ok false w := Tryz.isAgg60 w
theorem agg_62 (w : World) : (isAgg 62).run Tryz.prog w = .ok true w := Tryz.isAgg62 w
theorem agg_9 (w : World) : (isAgg 9).run Tryz.prog w = .ok false w := Tryz.isAgg9 w
theorem build_104 : BuildT Tryz.prog 104 [(.int .i64 0), (.int .i64 0)] [(0, 1), (1, 1)] := ⟨fun w => Tryz.zeroValue104 w, _, Tryz.underlying104, fun w => by simp [Tryz.sizeOf3]⟩
theorem build_107 : BuildT Tryz.prog 107 [(.slice none 0 0), (.slice none 0 0), (.int .i64 0)] [(0, 1), (1, 1), (2, 1)] := ⟨fun w => Tryz.zeroValue107 w, _, Tryz.underlying107, fun w => by simp [Tryz.sizeOf25, Tryz.sizeOf3, Tryz.sizeOf31]⟩
theorem build_109 : BuildT Tryz.prog 109 [(.int .i64 0), (.int .i64 0)] [(0, 1), (1, 1)] := ⟨fun w => Tryz.zeroValue109 w, _, Tryz.underlying109, fun w => by simp [Tryz.sizeOf3]⟩
theorem build_46 : BuildT Tryz.prog 46 [(Str.v ⟨[]⟩), (.int .i64 0), (.int .i64 0), (.int .i64 0)] [(0, 1), (1, 1), (2, 1), (3, 1)] := ⟨fun w => Tryz.zeroValue46 w, _, Tryz.underlying46, fun w => by simp [Tryz.sizeOf3, Tryz.sizeOf9]⟩
theorem build_62 : BuildT Tryz.prog 62 [(.int .i64 0), (.slice none 0 0), (.slice none 0 0)] [(0, 1), (1, 1), (2, 1)] := ⟨fun w => Tryz.zeroValue62 w, _, Tryz.underlying62, fun w => by simp [Tryz.sizeOf25, Tryz.sizeOf3, Tryz.sizeOf60]⟩
theorem build_67 : BuildT Tryz.prog 67 [(.slice none 0 0), (.slice none 0 0), (.slice none 0 0)] [(0, 1), (1, 1), (2, 1)] := ⟨fun w => Tryz.zeroValue67 w, _, Tryz.underlying67, fun w => by simp [Tryz.sizeOf25, Tryz.sizeOf31, Tryz.sizeOf42]⟩
theorem build_95 : BuildT Tryz.prog 95 [(.slice none 0 0), (.slice none 0 0)] [(0, 1), (1, 1)] := ⟨fun w => Tryz.zeroValue95 w, _, Tryz.underlying95, fun w => by simp [Tryz.sizeOf25, Tryz.sizeOf31]⟩
theorem el_25 : El Tryz.prog 25 5 1 1 (.int .u8 0) := ⟨Tryz.underlying25, by kernel_rfl, rfl, by decide, by decide⟩
theorem el_27 : El Tryz.prog 27 3 1 8 (.int .i64 0) := ⟨Tryz.underlying27, by kernel_rfl, rfl, by decide, by decide⟩
theorem el_29 : El Tryz.prog 29 58 8 136 (.agg #[(Str.v ⟨[]⟩), (.int .i64 0), (.int .i64 0), (.bool false), (.slice none 0 0), (.slice none 0 0), (.slice none 0 0), (.slice none 0 0)]) := ⟨Tryz.underlying29, by kernel_rfl, rfl, by decide, by decide⟩
theorem el_42 : El Tryz.prog 42 46 4 40 (.agg #[(Str.v ⟨[]⟩), (.int .i64 0), (.int .i64 0), (.int .i64 0)]) := ⟨Tryz.underlying42, by kernel_rfl, rfl, by decide, by decide⟩
theorem el_51 : El Tryz.prog 51 9 1 16 (Str.v ⟨[]⟩) := ⟨Tryz.underlying51, by kernel_rfl, rfl, by decide, by decide⟩
theorem el_60 : El Tryz.prog 60 62 3 56 (.agg #[(.int .i64 0), (.slice none 0 0), (.slice none 0 0)]) := ⟨Tryz.underlying60, by kernel_rfl, rfl, by decide, by decide⟩
theorem fld_104_0 : Fld Tryz.prog 104 0 0 := ⟨_, _, Tryz.underlying104, rfl, rfl, 1, fun w => Tryz.sizeOf3 w, by decide⟩
theorem fld_104_1 : Fld Tryz.prog 104 1 1 := ⟨_, _, Tryz.underlying104, rfl, rfl, 1, fun w => Tryz.sizeOf3 w, by decide⟩
theorem fld_107_0 : Fld Tryz.prog 107 0 0 := ⟨_, _, Tryz.underlying107, rfl, rfl, 1, fun w => Tryz.sizeOf31 w, by decide⟩
theorem fld_107_1 : Fld Tryz.prog 107 1 1 := ⟨_, _, Tryz.underlying107, rfl, rfl, 1, fun w => Tryz.sizeOf25 w, by decide⟩
theorem fld_107_2 : Fld Tryz.prog 107 2 2 := ⟨_, _, Tryz.underlying107, rfl, rfl, 1, fun w => Tryz.sizeOf3 w, by decide⟩
theorem fld_109_0 : Fld Tryz.prog 109 0 0 := ⟨_, _, Tryz.underlying109, rfl, rfl, 1, fun w => Tryz.sizeOf3 w, by decide⟩
theorem fld_109_1 : Fld Tryz.prog 109 1 1 := ⟨_, _, Tryz.underlying109, rfl, rfl, 1, fun w => Tryz.sizeOf3 w, by decide⟩
theorem fld_24_0 : Fld Tryz.prog 24 0 0 := ⟨_, _, Tryz.underlying24, rfl, rfl, 1, fun w => Tryz.sizeOf22 w, by decide⟩
theorem fld_31_0 : Fld Tryz.prog 31 0 0 := ⟨_, _, Tryz.underlying31, rfl, rfl, 1, fun w => Tryz.sizeOf29 w, by decide⟩
theorem fld_46_1 : Fld Tryz.prog 46 1 1 := ⟨_, _, Tryz.underlying46, rfl, rfl, 1, fun w => Tryz.sizeOf3 w, by decide⟩
theorem fld_46_3 : Fld Tryz.prog 46 3 3 := ⟨_, _, Tryz.underlying46, rfl, rfl, 1, fun w => Tryz.sizeOf3 w, by decide⟩
theorem fld_53_0 : Fld Tryz.prog 53 0 0 := ⟨_, _, Tryz.underlying53, rfl, rfl, 1, fun w => Tryz.sizeOf9 w, by decide⟩
theorem fld_53_1 : Fld Tryz.prog 53 1 1 := ⟨_, _, Tryz.underlying53, rfl, rfl, 1, fun w => Tryz.sizeOf3 w, by decide⟩
theorem fld_53_2 : Fld Tryz.prog 53 2 2 := ⟨_, _, Tryz.underlying53, rfl, rfl, 1, fun w => Tryz.sizeOf3 w, by decide⟩
theorem fld_53_3 : Fld Tryz.prog 53 3 3 := ⟨_, _, Tryz.underlying53, rfl, rfl, 1, fun w => Tryz.sizeOf4 w, by decide⟩
theorem fld_53_4 : Fld Tryz.prog 53 4 4 := ⟨_, _, Tryz.underlying53, rfl, rfl, 1, fun w => Tryz.sizeOf25 w, by decide⟩
theorem fld_53_5 : Fld Tryz.prog 53 5 5 := ⟨_, _, Tryz.underlying53, rfl, rfl, 1, fun w => Tryz.sizeOf51 w, by decide⟩
theorem fld_53_6 : Fld Tryz.prog 53 6 6 := ⟨_, _, Tryz.underlying53, rfl, rfl, 1, fun w => Tryz.sizeOf27 w, by decide⟩
theorem fld_53_7 : Fld Tryz.prog 53 7 7 := ⟨_, _, Tryz.underlying53, rfl, rfl, 1, fun w => Tryz.sizeOf27 w, by decide⟩
theorem fld_58_0 : Fld Tryz.prog 58 0 0 := ⟨_, _, Tryz.underlying58, rfl, rfl, 1, fun w => Tryz.sizeOf9 w, by decide⟩
theorem fld_58_1 : Fld Tryz.prog 58 1 1 := ⟨_, _, Tryz.underlying58, rfl, rfl, 1, fun w => Tryz.sizeOf3 w, by decide⟩
theorem fld_58_2 : Fld Tryz.prog 58 2 2 := ⟨_, _, Tryz.underlying58, rfl, rfl, 1, fun w => Tryz.sizeOf3 w, by decide⟩
theorem fld_58_3 : Fld Tryz.prog 58 3 3 := ⟨_, _, Tryz.underlying58, rfl, rfl, 1, fun w => Tryz.sizeOf4 w, by decide⟩
theorem fld_58_4 : Fld Tryz.prog 58 4 4 := ⟨_, _, Tryz.underlying58, rfl, rfl, 1, fun w => Tryz.sizeOf25 w, by decide⟩
theorem fld_58_5 : Fld Tryz.prog 58 5 5 := ⟨_, _, Tryz.underlying58, rfl, rfl, 1, fun w => Tryz.sizeOf51 w, by decide⟩
theorem fld_58_6 : Fld Tryz.prog 58 6 6 := ⟨_, _, Tryz.underlying58, rfl, rfl, 1, fun w => Tryz.sizeOf27 w, by decide⟩
theorem fld_58_7 : Fld Tryz.prog 58 7 7 := ⟨_, _, Tryz.underlying58, rfl, rfl, 1, fun w => Tryz.sizeOf27 w, by decide⟩
theorem fld_62_0 : Fld Tryz.prog 62 0 0 := ⟨_, _, Tryz.underlying62, rfl, rfl, 1, fun w => Tryz.sizeOf3 w, by decide⟩
theorem fld_62_2 : Fld Tryz.prog 62 2 2 := ⟨_, _, Tryz.underlying62, rfl, rfl, 1, fun w => Tryz.sizeOf60 w, by decide⟩
theorem fld_67_0 : Fld Tryz.prog 67 0 0 := ⟨_, _, Tryz.underlying67, rfl, rfl, 1, fun w => Tryz.sizeOf31 w, by decide⟩
theorem fld_67_1 : Fld Tryz.prog 67 1 1 := ⟨_, _, Tryz.underlying67, rfl, rfl, 1, fun w => Tryz.sizeOf25 w, by decide⟩
theorem fld_67_2 : Fld Tryz.prog 67 2 2 := ⟨_, _, Tryz.underlying67, rfl, rfl, 1, fun w => Tryz.sizeOf42 w, by decide⟩
theorem fld_95_0 : Fld Tryz.prog 95 0 0 := ⟨_, _, Tryz.underlying95, rfl, rfl, 1, fun w => Tryz.sizeOf31 w, by decide⟩
theorem fld_95_1 : Fld Tryz.prog 95 1 1 := ⟨_, _, Tryz.underlying95, rfl, rfl, 1, fun w => Tryz.sizeOf25 w, by decide⟩
theorem size_109 (w : World) : (sizeOf 109).run Tryz.prog w = .ok 2 w := Tryz.sizeOf109 w
theorem size_24 (w : World) : (sizeOf 24).run Tryz.prog w = .ok 1 w := Tryz.sizeOf24 w
theorem size_25 (w : World) : (sizeOf 25).run Tryz.prog w = .ok 1 w := Tryz.sizeOf25 w
theorem size_27 (w : World) : (sizeOf 27).run Tryz.prog w = .ok 1 w := Tryz.sizeOf27 w
theorem size_29 (w : World) : (sizeOf 29).run Tryz.prog w = .ok 1 w := Tryz.sizeOf29 w
theorem size_3 (w : World) : (sizeOf 3).run Tryz.prog w = .ok 1 w := Tryz.sizeOf3 w
theorem size_31 (w : World) : (sizeOf 31).run Tryz.prog w = .ok 1 w := Tryz.sizeOf31 w
theorem size_4 (w : World) : (sizeOf 4).run Tryz.prog w = .ok 1 w := Tryz.sizeOf4 w
theorem size_42 (w : World) : (sizeOf 42).run Tryz.prog w = .ok 1 w := Tryz.sizeOf42 w
theorem size_46 (w : World) : (sizeOf 46).run Tryz.prog w = .ok 4 w := Tryz.sizeOf46 w
theorem size_5 (w : World) : (sizeOf 5).run Tryz.prog w = .ok 1 w := Tryz.sizeOf5 w
theorem size_51 (w : World) : (sizeOf 51).run Tryz.prog w = .ok 1 w := Tryz.sizeOf51 w
theorem size_53 (w : World) : (sizeOf 53).run Tryz.prog w = .ok 8 w := Tryz.sizeOf53 w
theorem size_58 (w : World) : (sizeOf 58).run Tryz.prog w = .ok 8 w := Tryz.sizeOf58 w
theorem size_60 (w : World) : (sizeOf 60).run Tryz.prog w = .ok 1 w := Tryz.sizeOf60 w
theorem size_62 (w : World) : (sizeOf 62).run Tryz.prog w = .ok 3 w := Tryz.sizeOf62 w
theorem size_9 (w : World) : (sizeOf 9).run Tryz.prog w = .ok 1 w := Tryz.sizeOf9 w
abbrev und_100 := @Tryz.underlying100
abbrev und_102 := @Tryz.underlying102
abbrev und_22 := @Tryz.underlying22
abbrev und_25 := @Tryz.underlying25
abbrev und_27 := @Tryz.underlying27
abbrev und_29 := @Tryz.underlying29
abbrev und_3 := @Tryz.underlying3
abbrev und_4 := @Tryz.underlying4
abbrev und_42 := @Tryz.underlying42
abbrev und_5 := @Tryz.underlying5
abbrev und_51 := @Tryz.underlying51
abbrev und_60 := @Tryz.underlying60
abbrev und_9 := @Tryz.underlying9
abbrev und_97 := @Tryz.underlying97
theorem zero_100 (w : World) : (zeroValue 100).run Tryz.prog w = .ok (.pointer none) w := Tryz.zeroValue100 w
theorem zero_109 (w : World) : (zeroValue 109).run Tryz.prog w = .ok (.agg #[(.int .i64 0), (.int .i64 0)]) w := Tryz.zeroValue109 w
theorem zero_31 (w : World) : (zeroValue 31).run Tryz.prog w = .ok (.agg #[(.slice none 0 0)]) w := Tryz.zeroValue31 w
theorem zero_46 (w : World) : (zeroValue 46).run Tryz.prog w = .ok (.agg #[(Str.v ⟨[]⟩), (.int .i64 0), (.int .i64 0), (.int .i64 0)]) w := Tryz.zeroValue46 w
theorem zero_58 (w : World) : (zeroValue 58).run Tryz.prog w = .ok (.agg #[(Str.v ⟨[]⟩), (.int .i64 0), (.int .i64 0), (.bool false), (.slice none 0 0), (.slice none 0 0), (.slice none 0 0), (.slice none 0 0)]) w := Tryz.zeroValue58 w
theorem zero_62 (w : World) : (zeroValue 62).run Tryz.prog w = .ok (.agg #[(.int .i64 0), (.slice none 0 0), (.slice none 0 0)]) w := Tryz.zeroValue62 w
end Go.Vw
