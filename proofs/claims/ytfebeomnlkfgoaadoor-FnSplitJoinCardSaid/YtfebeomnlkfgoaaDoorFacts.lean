/-
  Closed facts on the types and functions of the translation, each by the kernel. No condition.
-/
import Derived.Test.YtfebeomnlkfgoaaDoorProg
import Derived.Test.YtfebeomnlkfgoaaDoorWf
import Derived.KernelRfl
namespace Go.Proofs.YtfebeomnlkfgoaaDoor
open Go.VS
theorem mixed_orders : Tryd.prog.follows .mixedOrders = true := by kernel_rfl
theorem tyk_2 : tyk Tryd.prog 2 = some (false, 1) := by kernel_rfl
theorem zk_2 : zeroK Tryd.prog 2 = some (1, .int .i64 0) := by kernel_rfl
theorem und_2 : Tryd.prog.underlying 2 = some (.int .i64) := by kernel_rfl
theorem tyk_3 : tyk Tryd.prog 3 = some (false, 1) := by kernel_rfl
theorem zk_3 : zeroK Tryd.prog 3 = some (1, .int .i64 0) := by kernel_rfl
theorem und_3 : Tryd.prog.underlying 3 = some (.int .i64) := by kernel_rfl
theorem tyk_4 : tyk Tryd.prog 4 = some (false, 1) := by kernel_rfl
theorem zk_4 : zeroK Tryd.prog 4 = some (1, .bool false) := by kernel_rfl
theorem und_4 : Tryd.prog.underlying 4 = some .bool := by kernel_rfl
theorem tyk_5 : tyk Tryd.prog 5 = some (false, 1) := by kernel_rfl
theorem zk_5 : zeroK Tryd.prog 5 = some (1, .int .u8 0) := by kernel_rfl
theorem und_5 : Tryd.prog.underlying 5 = some (.int .u8) := by kernel_rfl
theorem tyk_9 : tyk Tryd.prog 9 = some (false, 1) := by kernel_rfl
theorem zk_9 : zeroK Tryd.prog 9 = some (1, .str []) := by kernel_rfl
theorem istr_9 : isStr Tryd.prog 9 = true := by kernel_rfl
theorem tyk_12 : tyk Tryd.prog 12 = some (false, 1) := by kernel_rfl
theorem zk_12 : zeroK Tryd.prog 12 = some (1, .int .u64 0) := by kernel_rfl
theorem und_12 : Tryd.prog.underlying 12 = some (.int .u64) := by kernel_rfl
theorem tyk_13 : tyk Tryd.prog 13 = some (true, 2) := by kernel_rfl
theorem zk_13 : zeroK Tryd.prog 13 = some (2, .agg [.str [], .int .u64 0]) := by kernel_rfl
theorem fo_13_0 : fieldOff Tryd.prog 13 0 = some 0 := by kernel_rfl
theorem fo_13_1 : fieldOff Tryd.prog 13 1 = some 1 := by kernel_rfl
theorem tyk_21 : tyk Tryd.prog 21 = some (false, 1) := by kernel_rfl
theorem zk_21 : zeroK Tryd.prog 21 = some (1, .int .i32 0) := by kernel_rfl
theorem und_21 : Tryd.prog.underlying 21 = some (.int .i32) := by kernel_rfl
theorem tyk_22 : tyk Tryd.prog 22 = some (false, 1) := by kernel_rfl
theorem zk_22 : zeroK Tryd.prog 22 = some (1, .nils) := by kernel_rfl
theorem esz_22 : elemSz Tryd.prog 22 = some (5, 1) := by kernel_rfl
theorem eby_22 : elemBy Tryd.prog 22 = true := by kernel_rfl
theorem isl_22 : isSl Tryd.prog 22 = true := by kernel_rfl
theorem usl_22 : Tryd.prog.underlying 22 = some (.slice 5) := by kernel_rfl
theorem tyk_24 : tyk Tryd.prog 24 = some (true, 4) := by kernel_rfl
theorem zk_24 : zeroK Tryd.prog 24 = some (4, .agg [.int .i64 0, .int .i64 0, .int .i64 0, .int .i64 0]) := by kernel_rfl
theorem fo_24_0 : fieldOff Tryd.prog 24 0 = some 0 := by kernel_rfl
theorem fo_24_1 : fieldOff Tryd.prog 24 1 = some 1 := by kernel_rfl
theorem fo_24_2 : fieldOff Tryd.prog 24 2 = some 2 := by kernel_rfl
theorem fo_24_3 : fieldOff Tryd.prog 24 3 = some 3 := by kernel_rfl
theorem tyk_25 : tyk Tryd.prog 25 = some (true, 4) := by kernel_rfl
theorem zk_25 : zeroK Tryd.prog 25 = some (4, .agg [.int .i64 0, .int .i64 0, .int .i64 0, .int .i64 0]) := by kernel_rfl
theorem fo_25_0 : fieldOff Tryd.prog 25 0 = some 0 := by kernel_rfl
theorem fo_25_1 : fieldOff Tryd.prog 25 1 = some 1 := by kernel_rfl
theorem fo_25_2 : fieldOff Tryd.prog 25 2 = some 2 := by kernel_rfl
theorem fo_25_3 : fieldOff Tryd.prog 25 3 = some 3 := by kernel_rfl
theorem fe_25 : flatStruct Tryd.prog 25 = some [0, 0, 0, 0] := by kernel_rfl
theorem pl_25 : placesK Tryd.prog 25 = some [(0, 1), (1, 1), (2, 1), (3, 1)] := by kernel_rfl
theorem tyk_26 : tyk Tryd.prog 26 = some (true, 6) := by kernel_rfl
theorem zk_26 : zeroK Tryd.prog 26 = some (6, .agg [.int .i64 0, .int .i64 0, .int .i64 0, .bool false, .bool false, .int .i64 0]) := by kernel_rfl
theorem fo_26_0 : fieldOff Tryd.prog 26 0 = some 0 := by kernel_rfl
theorem fo_26_1 : fieldOff Tryd.prog 26 1 = some 1 := by kernel_rfl
theorem fo_26_2 : fieldOff Tryd.prog 26 2 = some 2 := by kernel_rfl
theorem fo_26_3 : fieldOff Tryd.prog 26 3 = some 3 := by kernel_rfl
theorem fo_26_4 : fieldOff Tryd.prog 26 4 = some 4 := by kernel_rfl
theorem fo_26_5 : fieldOff Tryd.prog 26 5 = some 5 := by kernel_rfl
theorem tyk_27 : tyk Tryd.prog 27 = some (true, 6) := by kernel_rfl
theorem zk_27 : zeroK Tryd.prog 27 = some (6, .agg [.int .i64 0, .int .i64 0, .int .i64 0, .bool false, .bool false, .int .i64 0]) := by kernel_rfl
theorem fo_27_0 : fieldOff Tryd.prog 27 0 = some 0 := by kernel_rfl
theorem fo_27_1 : fieldOff Tryd.prog 27 1 = some 1 := by kernel_rfl
theorem fo_27_2 : fieldOff Tryd.prog 27 2 = some 2 := by kernel_rfl
theorem fo_27_3 : fieldOff Tryd.prog 27 3 = some 3 := by kernel_rfl
theorem fo_27_4 : fieldOff Tryd.prog 27 4 = some 4 := by kernel_rfl
theorem fo_27_5 : fieldOff Tryd.prog 27 5 = some 5 := by kernel_rfl
theorem fe_27 : flatStruct Tryd.prog 27 = some [0, 0, 0, 1, 1, 0] := by kernel_rfl
theorem pl_27 : placesK Tryd.prog 27 = some [(0, 1), (1, 1), (2, 1), (3, 1), (4, 1), (5, 1)] := by kernel_rfl
theorem tyk_34 : tyk Tryd.prog 34 = some (false, 1) := by kernel_rfl
theorem zk_34 : zeroK Tryd.prog 34 = some (1, .nils) := by kernel_rfl
theorem esz_34 : elemSz Tryd.prog 34 = some (27, 6) := by kernel_rfl
theorem eby_34 : elemBy Tryd.prog 34 = true := by kernel_rfl
theorem isl_34 : isSl Tryd.prog 34 = true := by kernel_rfl
theorem usl_34 : Tryd.prog.underlying 34 = some (.slice 27) := by kernel_rfl
theorem tyk_43 : tyk Tryd.prog 43 = some (false, 1) := by kernel_rfl
theorem zk_43 : zeroK Tryd.prog 43 = some (1, .nils) := by kernel_rfl
theorem esz_43 : elemSz Tryd.prog 43 = some (50, 3) := by kernel_rfl
theorem eby_43 : elemBy Tryd.prog 43 = true := by kernel_rfl
theorem isl_43 : isSl Tryd.prog 43 = true := by kernel_rfl
theorem usl_43 : Tryd.prog.underlying 43 = some (.slice 50) := by kernel_rfl
theorem tyk_49 : tyk Tryd.prog 49 = some (true, 3) := by kernel_rfl
theorem zk_49 : zeroK Tryd.prog 49 = some (3, .agg [.int .i64 0, .int .i64 0, .int .i64 0]) := by kernel_rfl
theorem fo_49_0 : fieldOff Tryd.prog 49 0 = some 0 := by kernel_rfl
theorem fo_49_1 : fieldOff Tryd.prog 49 1 = some 1 := by kernel_rfl
theorem fo_49_2 : fieldOff Tryd.prog 49 2 = some 2 := by kernel_rfl
theorem tyk_50 : tyk Tryd.prog 50 = some (true, 3) := by kernel_rfl
theorem zk_50 : zeroK Tryd.prog 50 = some (3, .agg [.int .i64 0, .int .i64 0, .int .i64 0]) := by kernel_rfl
theorem fo_50_0 : fieldOff Tryd.prog 50 0 = some 0 := by kernel_rfl
theorem fo_50_1 : fieldOff Tryd.prog 50 1 = some 1 := by kernel_rfl
theorem fo_50_2 : fieldOff Tryd.prog 50 2 = some 2 := by kernel_rfl
theorem fe_50 : flatStruct Tryd.prog 50 = some [0, 0, 0] := by kernel_rfl
theorem pl_50 : placesK Tryd.prog 50 = some [(0, 1), (1, 1), (2, 1)] := by kernel_rfl
theorem tyk_51 : tyk Tryd.prog 51 = some (false, 1) := by kernel_rfl
theorem zk_51 : zeroK Tryd.prog 51 = some (1, .nils) := by kernel_rfl
theorem esz_51 : elemSz Tryd.prog 51 = some (3, 1) := by kernel_rfl
theorem eby_51 : elemBy Tryd.prog 51 = true := by kernel_rfl
theorem isl_51 : isSl Tryd.prog 51 = true := by kernel_rfl
theorem usl_51 : Tryd.prog.underlying 51 = some (.slice 3) := by kernel_rfl
theorem tyk_62 : tyk Tryd.prog 62 = some (false, 1) := by kernel_rfl
theorem zk_62 : zeroK Tryd.prog 62 = some (1, .nils) := by kernel_rfl
theorem esz_62 : elemSz Tryd.prog 62 = some (115, 7) := by kernel_rfl
theorem eby_62 : elemBy Tryd.prog 62 = true := by kernel_rfl
theorem isl_62 : isSl Tryd.prog 62 = true := by kernel_rfl
theorem usl_62 : Tryd.prog.underlying 62 = some (.slice 115) := by kernel_rfl
theorem tyk_68 : tyk Tryd.prog 68 = some (false, 1) := by kernel_rfl
theorem zk_68 : zeroK Tryd.prog 68 = some (1, .nils) := by kernel_rfl
theorem esz_68 : elemSz Tryd.prog 68 = some (51, 1) := by kernel_rfl
theorem eby_68 : elemBy Tryd.prog 68 = true := by kernel_rfl
theorem isl_68 : isSl Tryd.prog 68 = true := by kernel_rfl
theorem usl_68 : Tryd.prog.underlying 68 = some (.slice 51) := by kernel_rfl
theorem tyk_81 : tyk Tryd.prog 81 = some (false, 1) := by kernel_rfl
theorem zk_81 : zeroK Tryd.prog 81 = some (1, .nils) := by kernel_rfl
theorem esz_81 : elemSz Tryd.prog 81 = some (9, 1) := by kernel_rfl
theorem eby_81 : elemBy Tryd.prog 81 = true := by kernel_rfl
theorem isl_81 : isSl Tryd.prog 81 = true := by kernel_rfl
theorem usl_81 : Tryd.prog.underlying 81 = some (.slice 9) := by kernel_rfl
theorem tyk_88 : tyk Tryd.prog 88 = some (false, 1) := by kernel_rfl
theorem tyk_89 : tyk Tryd.prog 89 = some (false, 1) := by kernel_rfl
theorem zk_89 : zeroK Tryd.prog 89 = some (1, .int .u64 0) := by kernel_rfl
theorem und_89 : Tryd.prog.underlying 89 = some (.int .u64) := by kernel_rfl
theorem tyk_90 : tyk Tryd.prog 90 = some (true, 3) := by kernel_rfl
theorem zk_90 : zeroK Tryd.prog 90 = some (3, .agg [.nils, .int .i64 0, .int .u64 0]) := by kernel_rfl
theorem fo_90_0 : fieldOff Tryd.prog 90 0 = some 0 := by kernel_rfl
theorem fo_90_1 : fieldOff Tryd.prog 90 1 = some 1 := by kernel_rfl
theorem fo_90_2 : fieldOff Tryd.prog 90 2 = some 2 := by kernel_rfl
theorem tyk_91 : tyk Tryd.prog 91 = some (true, 3) := by kernel_rfl
theorem zk_91 : zeroK Tryd.prog 91 = some (3, .agg [.nils, .int .i64 0, .int .u64 0]) := by kernel_rfl
theorem fo_91_0 : fieldOff Tryd.prog 91 0 = some 0 := by kernel_rfl
theorem fo_91_1 : fieldOff Tryd.prog 91 1 = some 1 := by kernel_rfl
theorem fo_91_2 : fieldOff Tryd.prog 91 2 = some 2 := by kernel_rfl
theorem pl_91 : placesK Tryd.prog 91 = some [(0, 1), (1, 1), (2, 1)] := by kernel_rfl
theorem tyk_114 : tyk Tryd.prog 114 = some (true, 7) := by kernel_rfl
theorem zk_114 : zeroK Tryd.prog 114 = some (7, .agg [.int .i64 0, .int .i64 0, .str [], .int .i64 0, .int .i64 0, .int .i64 0, .int .i64 0]) := by kernel_rfl
theorem fo_114_0 : fieldOff Tryd.prog 114 0 = some 0 := by kernel_rfl
theorem fo_114_1 : fieldOff Tryd.prog 114 1 = some 1 := by kernel_rfl
theorem fo_114_2 : fieldOff Tryd.prog 114 2 = some 2 := by kernel_rfl
theorem fo_114_3 : fieldOff Tryd.prog 114 3 = some 3 := by kernel_rfl
theorem fo_114_4 : fieldOff Tryd.prog 114 4 = some 4 := by kernel_rfl
theorem fo_114_5 : fieldOff Tryd.prog 114 5 = some 5 := by kernel_rfl
theorem fo_114_6 : fieldOff Tryd.prog 114 6 = some 6 := by kernel_rfl
theorem tyk_115 : tyk Tryd.prog 115 = some (true, 7) := by kernel_rfl
theorem zk_115 : zeroK Tryd.prog 115 = some (7, .agg [.int .i64 0, .int .i64 0, .str [], .int .i64 0, .int .i64 0, .int .i64 0, .int .i64 0]) := by kernel_rfl
theorem fo_115_0 : fieldOff Tryd.prog 115 0 = some 0 := by kernel_rfl
theorem fo_115_1 : fieldOff Tryd.prog 115 1 = some 1 := by kernel_rfl
theorem fo_115_2 : fieldOff Tryd.prog 115 2 = some 2 := by kernel_rfl
theorem fo_115_3 : fieldOff Tryd.prog 115 3 = some 3 := by kernel_rfl
theorem fo_115_4 : fieldOff Tryd.prog 115 4 = some 4 := by kernel_rfl
theorem fo_115_5 : fieldOff Tryd.prog 115 5 = some 5 := by kernel_rfl
theorem fo_115_6 : fieldOff Tryd.prog 115 6 = some 6 := by kernel_rfl
theorem fe_115 : flatStruct Tryd.prog 115 = some [0, 0, 2, 0, 0, 0, 0] := by kernel_rfl
theorem pl_115 : placesK Tryd.prog 115 = some [(0, 1), (1, 1), (2, 1), (3, 1), (4, 1), (5, 1), (6, 1)] := by kernel_rfl
theorem tyk_134 : tyk Tryd.prog 134 = some (false, 1) := by kernel_rfl
theorem zk_134 : zeroK Tryd.prog 134 = some (1, .int .u64 0) := by kernel_rfl
theorem und_134 : Tryd.prog.underlying 134 = some (.int .u64) := by kernel_rfl
theorem tyk_140 : tyk Tryd.prog 140 = some (false, 1) := by kernel_rfl
theorem tyk_141 : tyk Tryd.prog 141 = some (true, 2) := by kernel_rfl
theorem fo_141_0 : fieldOff Tryd.prog 141 0 = some 0 := by kernel_rfl
theorem fo_141_1 : fieldOff Tryd.prog 141 1 = some 1 := by kernel_rfl
theorem tyk_142 : tyk Tryd.prog 142 = some (true, 2) := by kernel_rfl
theorem fo_142_0 : fieldOff Tryd.prog 142 0 = some 0 := by kernel_rfl
theorem fo_142_1 : fieldOff Tryd.prog 142 1 = some 1 := by kernel_rfl
theorem pl_142 : placesK Tryd.prog 142 = some [(0, 1), (1, 1)] := by kernel_rfl
theorem tyk_150 : tyk Tryd.prog 150 = some (true, 256) := by kernel_rfl
theorem zk_150 : zeroK Tryd.prog 150 = some (256, .agg [.bool false, .bool false, .bool false, .bool false, .bool false, .bool false, .bool false, .bool false, .bool false, .bool false, .bool false, .bool false, .bool false, .bool false, .bool false, .bool false, .bool false, .bool false, .bool false, .bool false, .bool false, .bool false, .bool false, .bool false, .bool false, .bool false, .bool false, .bool false, .bool false, .bool false, .bool false, .bool false, .bool false, .bool false, .bool false, .bool false, .bool false, .bool false, .bool false, .bool false, .bool false, .bool false, .bool false, .bool false, .bool false, .bool false, .bool false, .bool false, .bool false, .bool false, .bool false, .bool false, .bool false, .bool false, .bool false, .bool false, .bool false, .bool false, .bool false, .bool false, .bool false, .bool false, .bool false, .bool false, .bool false, .bool false, .bool false, .bool false, .bool false, .bool false, .bool false, .bool false, .bool false, .bool false, .bool false, .bool false, .bool false, .bool false, .bool false, .bool false, .bool false, .bool false, .bool false, .bool false, .bool false, .bool false, .bool false, .bool false, .bool false, .bool false, .bool false, .bool false, .bool false, .bool false, .bool false, .bool false, .bool false, .bool false, .bool false, .bool false, .bool false, .bool false, .bool false, .bool false, .bool false, .bool false, .bool false, .bool false, .bool false, .bool false, .bool false, .bool false, .bool false, .bool false, .bool false, .bool false, .bool false, .bool false, .bool false, .bool false, .bool false, .bool false, .bool false, .bool false, .bool false, .bool false, .bool false, .bool false, .bool false, .bool false, .bool false, .bool false, .bool false, .bool false, .bool false, .bool false, .bool false, .bool false, .bool false, .bool false, .bool false, .bool false, .bool false, .bool false, .bool false, .bool false, .bool false, .bool false, .bool false, .bool false, .bool false, .bool false, .bool false, .bool false, .bool false, .bool false, .bool false, .bool false, .bool false, .bool false, .bool false, .bool false, .bool false, .bool false, .bool false, .bool false, .bool false, .bool false, .bool false, .bool false, .bool false, .bool false, .bool false, .bool false, .bool false, .bool false, .bool false, .bool false, .bool false, .bool false, .bool false, .bool false, .bool false, .bool false, .bool false, .bool false, .bool false, .bool false, .bool false, .bool false, .bool false, .bool false, .bool false, .bool false, .bool false, .bool false, .bool false, .bool false, .bool false, .bool false, .bool false, .bool false, .bool false, .bool false, .bool false, .bool false, .bool false, .bool false, .bool false, .bool false, .bool false, .bool false, .bool false, .bool false, .bool false, .bool false, .bool false, .bool false, .bool false, .bool false, .bool false, .bool false, .bool false, .bool false, .bool false, .bool false, .bool false, .bool false, .bool false, .bool false, .bool false, .bool false, .bool false, .bool false, .bool false, .bool false, .bool false, .bool false, .bool false, .bool false, .bool false, .bool false, .bool false, .bool false, .bool false, .bool false, .bool false, .bool false, .bool false, .bool false, .bool false, .bool false, .bool false, .bool false, .bool false, .bool false]) := by kernel_rfl
theorem und_150 : Tryd.prog.underlying 150 = some (.array 256 4) := by kernel_rfl
theorem tyk_151 : tyk Tryd.prog 151 = some (true, 256) := by kernel_rfl
theorem zk_151 : zeroK Tryd.prog 151 = some (256, .agg [.bool false, .bool false, .bool false, .bool false, .bool false, .bool false, .bool false, .bool false, .bool false, .bool false, .bool false, .bool false, .bool false, .bool false, .bool false, .bool false, .bool false, .bool false, .bool false, .bool false, .bool false, .bool false, .bool false, .bool false, .bool false, .bool false, .bool false, .bool false, .bool false, .bool false, .bool false, .bool false, .bool false, .bool false, .bool false, .bool false, .bool false, .bool false, .bool false, .bool false, .bool false, .bool false, .bool false, .bool false, .bool false, .bool false, .bool false, .bool false, .bool false, .bool false, .bool false, .bool false, .bool false, .bool false, .bool false, .bool false, .bool false, .bool false, .bool false, .bool false, .bool false, .bool false, .bool false, .bool false, .bool false, .bool false, .bool false, .bool false, .bool false, .bool false, .bool false, .bool false, .bool false, .bool false, .bool false, .bool false, .bool false, .bool false, .bool false, .bool false, .bool false, .bool false, .bool false, .bool false, .bool false, .bool false, .bool false, .bool false, .bool false, .bool false, .bool false, .bool false, .bool false, .bool false, .bool false, .bool false, .bool false, .bool false, .bool false, .bool false, .bool false, .bool false, .bool false, .bool false, .bool false, .bool false, .bool false, .bool false, .bool false, .bool false, .bool false, .bool false, .bool false, .bool false, .bool false, .bool false, .bool false, .bool false, .bool false, .bool false, .bool false, .bool false, .bool false, .bool false, .bool false, .bool false, .bool false, .bool false, .bool false, .bool false, .bool false, .bool false, .bool false, .bool false, .bool false, .bool false, .bool false, .bool false, .bool false, .bool false, .bool false, .bool false, .bool false, .bool false, .bool false, .bool false, .bool false, .bool false, .bool false, .bool false, .bool false, .bool false, .bool false, .bool false, .bool false, .bool false, .bool false, .bool false, .bool false, .bool false, .bool false, .bool false, .bool false, .bool false, .bool false, .bool false, .bool false, .bool false, .bool false, .bool false, .bool false, .bool false, .bool false, .bool false, .bool false, .bool false, .bool false, .bool false, .bool false, .bool false, .bool false, .bool false, .bool false, .bool false, .bool false, .bool false, .bool false, .bool false, .bool false, .bool false, .bool false, .bool false, .bool false, .bool false, .bool false, .bool false, .bool false, .bool false, .bool false, .bool false, .bool false, .bool false, .bool false, .bool false, .bool false, .bool false, .bool false, .bool false, .bool false, .bool false, .bool false, .bool false, .bool false, .bool false, .bool false, .bool false, .bool false, .bool false, .bool false, .bool false, .bool false, .bool false, .bool false, .bool false, .bool false, .bool false, .bool false, .bool false, .bool false, .bool false, .bool false, .bool false, .bool false, .bool false, .bool false, .bool false, .bool false, .bool false, .bool false, .bool false, .bool false, .bool false, .bool false, .bool false, .bool false, .bool false, .bool false, .bool false, .bool false, .bool false, .bool false, .bool false, .bool false, .bool false, .bool false, .bool false]) := by kernel_rfl
theorem und_151 : Tryd.prog.underlying 151 = some (.array 256 4) := by kernel_rfl
theorem tyk_155 : tyk Tryd.prog 155 = some (false, 1) := by kernel_rfl
theorem tyk_159 : tyk Tryd.prog 159 = some (false, 1) := by kernel_rfl
theorem tyk_170 : tyk Tryd.prog 170 = some (true, 24) := by kernel_rfl
theorem zk_170 : zeroK Tryd.prog 170 = some (24, .agg [.int .u8 0, .int .u8 0, .int .u8 0, .int .u8 0, .int .u8 0, .int .u8 0, .int .u8 0, .int .u8 0, .int .u8 0, .int .u8 0, .int .u8 0, .int .u8 0, .int .u8 0, .int .u8 0, .int .u8 0, .int .u8 0, .int .u8 0, .int .u8 0, .int .u8 0, .int .u8 0, .int .u8 0, .int .u8 0, .int .u8 0, .int .u8 0]) := by kernel_rfl
theorem eg_170 : Tryd.prog.eqGuardType Tryd.prog.depth 170 = false := by kernel_rfl
theorem und_170 : Tryd.prog.underlying 170 = some (.array 24 5) := by kernel_rfl
theorem tyk_176 : tyk Tryd.prog 176 = some (false, 1) := by kernel_rfl
theorem zk_176 : zeroK Tryd.prog 176 = some (1, .int .u32 0) := by kernel_rfl
theorem und_176 : Tryd.prog.underlying 176 = some (.int .u32) := by kernel_rfl
theorem tyk_180 : tyk Tryd.prog 180 = some (true, 20) := by kernel_rfl
theorem zk_180 : zeroK Tryd.prog 180 = some (20, .agg [.int .u64 0, .int .u64 0, .int .u64 0, .int .u64 0, .int .u64 0, .int .u64 0, .int .u64 0, .int .u64 0, .int .u64 0, .int .u64 0, .int .u64 0, .int .u64 0, .int .u64 0, .int .u64 0, .int .u64 0, .int .u64 0, .int .u64 0, .int .u64 0, .int .u64 0, .int .u64 0]) := by kernel_rfl
theorem eg_180 : Tryd.prog.eqGuardType Tryd.prog.depth 180 = false := by kernel_rfl
theorem und_180 : Tryd.prog.underlying 180 = some (.array 20 89) := by kernel_rfl
theorem tyk_181 : tyk Tryd.prog 181 = some (true, 65) := by kernel_rfl
theorem zk_181 : zeroK Tryd.prog 181 = some (65, .agg [.int .u8 0, .int .u8 0, .int .u8 0, .int .u8 0, .int .u8 0, .int .u8 0, .int .u8 0, .int .u8 0, .int .u8 0, .int .u8 0, .int .u8 0, .int .u8 0, .int .u8 0, .int .u8 0, .int .u8 0, .int .u8 0, .int .u8 0, .int .u8 0, .int .u8 0, .int .u8 0, .int .u8 0, .int .u8 0, .int .u8 0, .int .u8 0, .int .u8 0, .int .u8 0, .int .u8 0, .int .u8 0, .int .u8 0, .int .u8 0, .int .u8 0, .int .u8 0, .int .u8 0, .int .u8 0, .int .u8 0, .int .u8 0, .int .u8 0, .int .u8 0, .int .u8 0, .int .u8 0, .int .u8 0, .int .u8 0, .int .u8 0, .int .u8 0, .int .u8 0, .int .u8 0, .int .u8 0, .int .u8 0, .int .u8 0, .int .u8 0, .int .u8 0, .int .u8 0, .int .u8 0, .int .u8 0, .int .u8 0, .int .u8 0, .int .u8 0, .int .u8 0, .int .u8 0, .int .u8 0, .int .u8 0, .int .u8 0, .int .u8 0, .int .u8 0, .int .u8 0]) := by kernel_rfl
theorem eg_181 : Tryd.prog.eqGuardType Tryd.prog.depth 181 = false := by kernel_rfl
theorem und_181 : Tryd.prog.underlying 181 = some (.array 65 5) := by kernel_rfl
theorem tyk_183 : tyk Tryd.prog 183 = some (true, 256) := by kernel_rfl
theorem zk_183 : zeroK Tryd.prog 183 = some (256, .agg [.int .u8 0, .int .u8 0, .int .u8 0, .int .u8 0, .int .u8 0, .int .u8 0, .int .u8 0, .int .u8 0, .int .u8 0, .int .u8 0, .int .u8 0, .int .u8 0, .int .u8 0, .int .u8 0, .int .u8 0, .int .u8 0, .int .u8 0, .int .u8 0, .int .u8 0, .int .u8 0, .int .u8 0, .int .u8 0, .int .u8 0, .int .u8 0, .int .u8 0, .int .u8 0, .int .u8 0, .int .u8 0, .int .u8 0, .int .u8 0, .int .u8 0, .int .u8 0, .int .u8 0, .int .u8 0, .int .u8 0, .int .u8 0, .int .u8 0, .int .u8 0, .int .u8 0, .int .u8 0, .int .u8 0, .int .u8 0, .int .u8 0, .int .u8 0, .int .u8 0, .int .u8 0, .int .u8 0, .int .u8 0, .int .u8 0, .int .u8 0, .int .u8 0, .int .u8 0, .int .u8 0, .int .u8 0, .int .u8 0, .int .u8 0, .int .u8 0, .int .u8 0, .int .u8 0, .int .u8 0, .int .u8 0, .int .u8 0, .int .u8 0, .int .u8 0, .int .u8 0, .int .u8 0, .int .u8 0, .int .u8 0, .int .u8 0, .int .u8 0, .int .u8 0, .int .u8 0, .int .u8 0, .int .u8 0, .int .u8 0, .int .u8 0, .int .u8 0, .int .u8 0, .int .u8 0, .int .u8 0, .int .u8 0, .int .u8 0, .int .u8 0, .int .u8 0, .int .u8 0, .int .u8 0, .int .u8 0, .int .u8 0, .int .u8 0, .int .u8 0, .int .u8 0, .int .u8 0, .int .u8 0, .int .u8 0, .int .u8 0, .int .u8 0, .int .u8 0, .int .u8 0, .int .u8 0, .int .u8 0, .int .u8 0, .int .u8 0, .int .u8 0, .int .u8 0, .int .u8 0, .int .u8 0, .int .u8 0, .int .u8 0, .int .u8 0, .int .u8 0, .int .u8 0, .int .u8 0, .int .u8 0, .int .u8 0, .int .u8 0, .int .u8 0, .int .u8 0, .int .u8 0, .int .u8 0, .int .u8 0, .int .u8 0, .int .u8 0, .int .u8 0, .int .u8 0, .int .u8 0, .int .u8 0, .int .u8 0, .int .u8 0, .int .u8 0, .int .u8 0, .int .u8 0, .int .u8 0, .int .u8 0, .int .u8 0, .int .u8 0, .int .u8 0, .int .u8 0, .int .u8 0, .int .u8 0, .int .u8 0, .int .u8 0, .int .u8 0, .int .u8 0, .int .u8 0, .int .u8 0, .int .u8 0, .int .u8 0, .int .u8 0, .int .u8 0, .int .u8 0, .int .u8 0, .int .u8 0, .int .u8 0, .int .u8 0, .int .u8 0, .int .u8 0, .int .u8 0, .int .u8 0, .int .u8 0, .int .u8 0, .int .u8 0, .int .u8 0, .int .u8 0, .int .u8 0, .int .u8 0, .int .u8 0, .int .u8 0, .int .u8 0, .int .u8 0, .int .u8 0, .int .u8 0, .int .u8 0, .int .u8 0, .int .u8 0, .int .u8 0, .int .u8 0, .int .u8 0, .int .u8 0, .int .u8 0, .int .u8 0, .int .u8 0, .int .u8 0, .int .u8 0, .int .u8 0, .int .u8 0, .int .u8 0, .int .u8 0, .int .u8 0, .int .u8 0, .int .u8 0, .int .u8 0, .int .u8 0, .int .u8 0, .int .u8 0, .int .u8 0, .int .u8 0, .int .u8 0, .int .u8 0, .int .u8 0, .int .u8 0, .int .u8 0, .int .u8 0, .int .u8 0, .int .u8 0, .int .u8 0, .int .u8 0, .int .u8 0, .int .u8 0, .int .u8 0, .int .u8 0, .int .u8 0, .int .u8 0, .int .u8 0, .int .u8 0, .int .u8 0, .int .u8 0, .int .u8 0, .int .u8 0, .int .u8 0, .int .u8 0, .int .u8 0, .int .u8 0, .int .u8 0, .int .u8 0, .int .u8 0, .int .u8 0, .int .u8 0, .int .u8 0, .int .u8 0, .int .u8 0, .int .u8 0, .int .u8 0, .int .u8 0, .int .u8 0, .int .u8 0, .int .u8 0, .int .u8 0, .int .u8 0, .int .u8 0, .int .u8 0, .int .u8 0, .int .u8 0, .int .u8 0, .int .u8 0, .int .u8 0, .int .u8 0, .int .u8 0, .int .u8 0, .int .u8 0, .int .u8 0, .int .u8 0, .int .u8 0, .int .u8 0, .int .u8 0, .int .u8 0, .int .u8 0]) := by kernel_rfl
theorem eg_183 : Tryd.prog.eqGuardType Tryd.prog.depth 183 = false := by kernel_rfl
theorem und_183 : Tryd.prog.underlying 183 = some (.array 256 5) := by kernel_rfl
theorem tyk_184 : tyk Tryd.prog 184 = some (true, 2) := by kernel_rfl
theorem zk_184 : zeroK Tryd.prog 184 = some (2, .agg [.int .u8 0, .int .u8 0]) := by kernel_rfl
theorem fo_184_0 : fieldOff Tryd.prog 184 0 = some 0 := by kernel_rfl
theorem fo_184_1 : fieldOff Tryd.prog 184 1 = some 1 := by kernel_rfl
theorem tyk_185 : tyk Tryd.prog 185 = some (true, 2) := by kernel_rfl
theorem zk_185 : zeroK Tryd.prog 185 = some (2, .agg [.int .u8 0, .int .u8 0]) := by kernel_rfl
theorem fo_185_0 : fieldOff Tryd.prog 185 0 = some 0 := by kernel_rfl
theorem fo_185_1 : fieldOff Tryd.prog 185 1 = some 1 := by kernel_rfl
theorem fe_185 : flatStruct Tryd.prog 185 = some [0, 0] := by kernel_rfl
theorem pl_185 : placesK Tryd.prog 185 = some [(0, 1), (1, 1)] := by kernel_rfl
theorem tyk_186 : tyk Tryd.prog 186 = some (true, 32) := by kernel_rfl
theorem zk_186 : zeroK Tryd.prog 186 = some (32, .agg [.int .u8 0, .int .u8 0, .int .u8 0, .int .u8 0, .int .u8 0, .int .u8 0, .int .u8 0, .int .u8 0, .int .u8 0, .int .u8 0, .int .u8 0, .int .u8 0, .int .u8 0, .int .u8 0, .int .u8 0, .int .u8 0, .int .u8 0, .int .u8 0, .int .u8 0, .int .u8 0, .int .u8 0, .int .u8 0, .int .u8 0, .int .u8 0, .int .u8 0, .int .u8 0, .int .u8 0, .int .u8 0, .int .u8 0, .int .u8 0, .int .u8 0, .int .u8 0]) := by kernel_rfl
theorem und_186 : Tryd.prog.underlying 186 = some (.array 16 185) := by kernel_rfl
theorem tyk_189 : tyk Tryd.prog 189 = some (true, 32) := by kernel_rfl
theorem zk_189 : zeroK Tryd.prog 189 = some (32, .agg [.int .u8 0, .int .u8 0, .int .u8 0, .int .u8 0, .int .u8 0, .int .u8 0, .int .u8 0, .int .u8 0, .int .u8 0, .int .u8 0, .int .u8 0, .int .u8 0, .int .u8 0, .int .u8 0, .int .u8 0, .int .u8 0, .int .u8 0, .int .u8 0, .int .u8 0, .int .u8 0, .int .u8 0, .int .u8 0, .int .u8 0, .int .u8 0, .int .u8 0, .int .u8 0, .int .u8 0, .int .u8 0, .int .u8 0, .int .u8 0, .int .u8 0, .int .u8 0]) := by kernel_rfl
theorem eg_189 : Tryd.prog.eqGuardType Tryd.prog.depth 189 = false := by kernel_rfl
theorem und_189 : Tryd.prog.underlying 189 = some (.array 32 5) := by kernel_rfl
theorem tyk_190 : tyk Tryd.prog 190 = some (true, 64) := by kernel_rfl
theorem zk_190 : zeroK Tryd.prog 190 = some (64, .agg [.int .u8 0, .int .u8 0, .int .u8 0, .int .u8 0, .int .u8 0, .int .u8 0, .int .u8 0, .int .u8 0, .int .u8 0, .int .u8 0, .int .u8 0, .int .u8 0, .int .u8 0, .int .u8 0, .int .u8 0, .int .u8 0, .int .u8 0, .int .u8 0, .int .u8 0, .int .u8 0, .int .u8 0, .int .u8 0, .int .u8 0, .int .u8 0, .int .u8 0, .int .u8 0, .int .u8 0, .int .u8 0, .int .u8 0, .int .u8 0, .int .u8 0, .int .u8 0, .int .u8 0, .int .u8 0, .int .u8 0, .int .u8 0, .int .u8 0, .int .u8 0, .int .u8 0, .int .u8 0, .int .u8 0, .int .u8 0, .int .u8 0, .int .u8 0, .int .u8 0, .int .u8 0, .int .u8 0, .int .u8 0, .int .u8 0, .int .u8 0, .int .u8 0, .int .u8 0, .int .u8 0, .int .u8 0, .int .u8 0, .int .u8 0, .int .u8 0, .int .u8 0, .int .u8 0, .int .u8 0, .int .u8 0, .int .u8 0, .int .u8 0, .int .u8 0]) := by kernel_rfl
theorem eg_190 : Tryd.prog.eqGuardType Tryd.prog.depth 190 = false := by kernel_rfl
theorem und_190 : Tryd.prog.underlying 190 = some (.array 64 5) := by kernel_rfl
theorem cok_3 : callOK Tryd.prog 3 = true := by kernel_rfl
theorem cok_4 : callOK Tryd.prog 4 = true := by kernel_rfl
theorem cok_5 : callOK Tryd.prog 5 = true := by kernel_rfl
theorem cok_6 : callOK Tryd.prog 6 = true := by kernel_rfl
theorem cok_7 : callOK Tryd.prog 7 = true := by kernel_rfl
theorem cok_8 : callOK Tryd.prog 8 = true := by kernel_rfl
theorem cok_9 : callOK Tryd.prog 9 = true := by kernel_rfl
theorem cok_10 : callOK Tryd.prog 10 = true := by kernel_rfl
theorem cok_11 : callOK Tryd.prog 11 = true := by kernel_rfl
theorem cok_12 : callOK Tryd.prog 12 = true := by kernel_rfl
theorem cok_13 : callOK Tryd.prog 13 = true := by kernel_rfl
theorem cok_14 : callOK Tryd.prog 14 = true := by kernel_rfl
theorem cok_15 : callOK Tryd.prog 15 = true := by kernel_rfl
theorem cok_16 : callOK Tryd.prog 16 = true := by kernel_rfl
theorem cok_17 : callOK Tryd.prog 17 = true := by kernel_rfl
theorem cok_18 : callOK Tryd.prog 18 = true := by kernel_rfl
theorem cok_19 : callOK Tryd.prog 19 = true := by kernel_rfl
theorem cok_20 : callOK Tryd.prog 20 = true := by kernel_rfl
theorem cok_21 : callOK Tryd.prog 21 = true := by kernel_rfl
theorem cok_22 : callOK Tryd.prog 22 = true := by kernel_rfl
theorem cok_23 : callOK Tryd.prog 23 = true := by kernel_rfl
theorem cok_24 : callOK Tryd.prog 24 = true := by kernel_rfl
theorem cok_25 : callOK Tryd.prog 25 = true := by kernel_rfl
theorem cok_26 : callOK Tryd.prog 26 = true := by kernel_rfl
theorem cok_27 : callOK Tryd.prog 27 = true := by kernel_rfl
theorem cok_28 : callOK Tryd.prog 28 = true := by kernel_rfl
theorem cok_29 : callOK Tryd.prog 29 = true := by kernel_rfl
theorem cok_30 : callOK Tryd.prog 30 = true := by kernel_rfl
theorem cok_31 : callOK Tryd.prog 31 = true := by kernel_rfl
theorem cok_32 : callOK Tryd.prog 32 = true := by kernel_rfl
theorem cok_33 : callOK Tryd.prog 33 = true := by kernel_rfl
theorem cok_34 : callOK Tryd.prog 34 = true := by kernel_rfl
theorem cok_35 : callOK Tryd.prog 35 = true := by kernel_rfl
theorem cok_36 : callOK Tryd.prog 36 = true := by kernel_rfl
theorem cok_37 : callOK Tryd.prog 37 = true := by kernel_rfl
theorem cok_38 : callOK Tryd.prog 38 = true := by kernel_rfl
theorem cok_39 : callOK Tryd.prog 39 = true := by kernel_rfl
theorem cok_40 : callOK Tryd.prog 40 = true := by kernel_rfl
theorem cok_41 : callOK Tryd.prog 41 = true := by kernel_rfl
theorem cok_42 : callOK Tryd.prog 42 = true := by kernel_rfl
theorem cok_43 : callOK Tryd.prog 43 = true := by kernel_rfl
theorem cok_44 : callOK Tryd.prog 44 = true := by kernel_rfl
theorem cok_45 : callOK Tryd.prog 45 = true := by kernel_rfl
theorem cok_46 : callOK Tryd.prog 46 = true := by kernel_rfl
theorem cok_47 : callOK Tryd.prog 47 = true := by kernel_rfl
theorem cok_48 : callOK Tryd.prog 48 = true := by kernel_rfl
theorem cok_49 : callOK Tryd.prog 49 = true := by kernel_rfl
theorem cok_50 : callOK Tryd.prog 50 = true := by kernel_rfl
theorem cok_51 : callOK Tryd.prog 51 = true := by kernel_rfl
theorem cok_52 : callOK Tryd.prog 52 = true := by kernel_rfl
theorem cok_53 : callOK Tryd.prog 53 = true := by kernel_rfl
theorem cok_54 : callOK Tryd.prog 54 = true := by kernel_rfl
theorem cok_55 : callOK Tryd.prog 55 = true := by kernel_rfl
theorem cok_56 : callOK Tryd.prog 56 = true := by kernel_rfl
theorem cok_57 : callOK Tryd.prog 57 = true := by kernel_rfl
theorem cok_58 : callOK Tryd.prog 58 = true := by kernel_rfl
theorem cok_59 : callOK Tryd.prog 59 = true := by kernel_rfl
theorem cok_60 : callOK Tryd.prog 60 = true := by kernel_rfl
theorem cok_61 : callOK Tryd.prog 61 = true := by kernel_rfl
theorem cok_62 : callOK Tryd.prog 62 = true := by kernel_rfl
theorem cok_63 : callOK Tryd.prog 63 = true := by kernel_rfl
theorem cok_64 : callOK Tryd.prog 64 = true := by kernel_rfl
theorem cok_65 : callOK Tryd.prog 65 = true := by kernel_rfl
theorem cok_66 : callOK Tryd.prog 66 = true := by kernel_rfl
theorem cok_67 : callOK Tryd.prog 67 = true := by kernel_rfl
theorem cok_68 : callOK Tryd.prog 68 = true := by kernel_rfl
theorem cok_69 : callOK Tryd.prog 69 = true := by kernel_rfl
theorem cok_70 : callOK Tryd.prog 70 = true := by kernel_rfl
theorem cok_71 : callOK Tryd.prog 71 = true := by kernel_rfl
theorem cok_72 : callOK Tryd.prog 72 = true := by kernel_rfl
theorem cok_73 : callOK Tryd.prog 73 = true := by kernel_rfl
theorem cok_74 : callOK Tryd.prog 74 = true := by kernel_rfl
theorem cok_75 : callOK Tryd.prog 75 = true := by kernel_rfl
theorem cok_76 : callOK Tryd.prog 76 = true := by kernel_rfl
theorem cok_77 : callOK Tryd.prog 77 = true := by kernel_rfl
theorem cok_78 : callOK Tryd.prog 78 = true := by kernel_rfl
theorem cok_79 : callOK Tryd.prog 79 = true := by kernel_rfl
theorem cok_80 : callOK Tryd.prog 80 = true := by kernel_rfl
theorem cok_81 : callOK Tryd.prog 81 = true := by kernel_rfl
theorem cok_82 : callOK Tryd.prog 82 = true := by kernel_rfl
theorem cok_83 : callOK Tryd.prog 83 = true := by kernel_rfl
theorem cok_84 : callOK Tryd.prog 84 = true := by kernel_rfl
theorem cok_85 : callOK Tryd.prog 85 = true := by kernel_rfl
theorem cok_86 : callOK Tryd.prog 86 = true := by kernel_rfl
theorem cok_87 : callOK Tryd.prog 87 = true := by kernel_rfl
theorem cok_88 : callOK Tryd.prog 88 = true := by kernel_rfl
theorem cok_89 : callOK Tryd.prog 89 = true := by kernel_rfl
theorem cok_90 : callOK Tryd.prog 90 = true := by kernel_rfl
theorem cok_91 : callOK Tryd.prog 91 = true := by kernel_rfl
theorem cok_92 : callOK Tryd.prog 92 = true := by kernel_rfl
theorem cok_93 : callOK Tryd.prog 93 = true := by kernel_rfl
theorem cok_94 : callOK Tryd.prog 94 = true := by kernel_rfl
theorem cok_95 : callOK Tryd.prog 95 = true := by kernel_rfl
theorem cok_96 : callOK Tryd.prog 96 = true := by kernel_rfl
theorem cok_97 : callOK Tryd.prog 97 = true := by kernel_rfl
theorem cok_98 : callOK Tryd.prog 98 = true := by kernel_rfl
theorem cok_99 : callOK Tryd.prog 99 = true := by kernel_rfl
theorem cok_100 : callOK Tryd.prog 100 = true := by kernel_rfl
theorem cok_101 : callOK Tryd.prog 101 = true := by kernel_rfl
theorem cok_102 : callOK Tryd.prog 102 = true := by kernel_rfl
theorem cok_103 : callOK Tryd.prog 103 = true := by kernel_rfl
theorem cok_104 : callOK Tryd.prog 104 = true := by kernel_rfl
theorem cok_105 : callOK Tryd.prog 105 = true := by kernel_rfl
theorem cok_106 : callOK Tryd.prog 106 = true := by kernel_rfl
theorem cok_107 : callOK Tryd.prog 107 = true := by kernel_rfl
theorem cok_108 : callOK Tryd.prog 108 = true := by kernel_rfl
theorem cok_109 : callOK Tryd.prog 109 = true := by kernel_rfl
theorem cok_110 : callOK Tryd.prog 110 = true := by kernel_rfl
theorem cok_111 : callOK Tryd.prog 111 = true := by kernel_rfl
theorem cok_112 : callOK Tryd.prog 112 = true := by kernel_rfl
theorem cok_113 : callOK Tryd.prog 113 = true := by kernel_rfl
theorem cok_114 : callOK Tryd.prog 114 = true := by kernel_rfl
theorem cok_115 : callOK Tryd.prog 115 = true := by kernel_rfl
theorem cok_116 : callOK Tryd.prog 116 = true := by kernel_rfl
theorem cok_117 : callOK Tryd.prog 117 = true := by kernel_rfl
theorem cok_118 : callOK Tryd.prog 118 = true := by kernel_rfl
theorem cok_119 : callOK Tryd.prog 119 = true := by kernel_rfl
theorem cok_120 : callOK Tryd.prog 120 = true := by kernel_rfl
theorem cok_121 : callOK Tryd.prog 121 = true := by kernel_rfl
theorem cok_122 : callOK Tryd.prog 122 = true := by kernel_rfl
theorem cok_123 : callOK Tryd.prog 123 = true := by kernel_rfl
theorem cok_124 : callOK Tryd.prog 124 = true := by kernel_rfl
theorem cok_125 : callOK Tryd.prog 125 = true := by kernel_rfl
theorem cok_126 : callOK Tryd.prog 126 = true := by kernel_rfl
theorem cok_127 : callOK Tryd.prog 127 = true := by kernel_rfl
theorem cok_128 : callOK Tryd.prog 128 = true := by kernel_rfl
theorem cok_129 : callOK Tryd.prog 129 = true := by kernel_rfl
theorem cok_130 : callOK Tryd.prog 130 = true := by kernel_rfl
theorem cok_132 : callOK Tryd.prog 132 = true := by kernel_rfl
theorem cok_133 : callOK Tryd.prog 133 = true := by kernel_rfl
theorem cok_134 : callOK Tryd.prog 134 = true := by kernel_rfl
theorem cok_135 : callOK Tryd.prog 135 = true := by kernel_rfl
theorem cok_136 : callOK Tryd.prog 136 = true := by kernel_rfl
theorem cok_137 : callOK Tryd.prog 137 = true := by kernel_rfl
theorem cok_138 : callOK Tryd.prog 138 = true := by kernel_rfl
theorem cok_139 : callOK Tryd.prog 139 = true := by kernel_rfl
theorem cok_140 : callOK Tryd.prog 140 = true := by kernel_rfl
theorem cok_141 : callOK Tryd.prog 141 = true := by kernel_rfl
theorem cok_142 : callOK Tryd.prog 142 = true := by kernel_rfl
theorem cok_143 : callOK Tryd.prog 143 = true := by kernel_rfl
theorem cok_144 : callOK Tryd.prog 144 = true := by kernel_rfl
theorem cok_145 : callOK Tryd.prog 145 = true := by kernel_rfl
theorem cok_146 : callOK Tryd.prog 146 = true := by kernel_rfl
theorem cok_147 : callOK Tryd.prog 147 = true := by kernel_rfl
theorem cok_148 : callOK Tryd.prog 148 = true := by kernel_rfl
theorem cok_149 : callOK Tryd.prog 149 = true := by kernel_rfl
theorem cok_150 : callOK Tryd.prog 150 = true := by kernel_rfl
theorem cok_151 : callOK Tryd.prog 151 = true := by kernel_rfl
theorem cok_152 : callOK Tryd.prog 152 = true := by kernel_rfl
theorem cok_153 : callOK Tryd.prog 153 = true := by kernel_rfl
theorem cok_154 : callOK Tryd.prog 154 = true := by kernel_rfl
theorem cok_155 : callOK Tryd.prog 155 = true := by kernel_rfl
theorem cok_156 : callOK Tryd.prog 156 = true := by kernel_rfl
theorem cok_157 : callOK Tryd.prog 157 = true := by kernel_rfl
theorem cok_158 : callOK Tryd.prog 158 = true := by kernel_rfl
theorem cok_159 : callOK Tryd.prog 159 = true := by kernel_rfl
theorem cok_160 : callOK Tryd.prog 160 = true := by kernel_rfl
theorem cok_161 : callOK Tryd.prog 161 = true := by kernel_rfl
theorem cok_162 : callOK Tryd.prog 162 = true := by kernel_rfl
theorem cok_163 : callOK Tryd.prog 163 = true := by kernel_rfl
theorem cok_164 : callOK Tryd.prog 164 = true := by kernel_rfl
theorem cok_165 : callOK Tryd.prog 165 = true := by kernel_rfl
theorem cok_166 : callOK Tryd.prog 166 = true := by kernel_rfl
theorem cok_167 : callOK Tryd.prog 167 = true := by kernel_rfl
theorem cok_168 : callOK Tryd.prog 168 = true := by kernel_rfl
theorem cok_169 : callOK Tryd.prog 169 = true := by kernel_rfl
theorem cok_171 : callOK Tryd.prog 171 = true := by kernel_rfl
theorem cok_173 : callOK Tryd.prog 173 = true := by kernel_rfl
theorem cok_174 : callOK Tryd.prog 174 = true := by kernel_rfl
theorem cok_177 : callOK Tryd.prog 177 = true := by kernel_rfl
theorem cok_178 : callOK Tryd.prog 178 = true := by kernel_rfl
theorem cok_179 : callOK Tryd.prog 179 = true := by kernel_rfl
theorem cok_180 : callOK Tryd.prog 180 = true := by kernel_rfl
theorem cok_181 : callOK Tryd.prog 181 = true := by kernel_rfl
theorem cok_182 : callOK Tryd.prog 182 = true := by kernel_rfl
theorem cok_183 : callOK Tryd.prog 183 = true := by kernel_rfl
theorem cok_184 : callOK Tryd.prog 184 = true := by kernel_rfl
theorem cok_186 : callOK Tryd.prog 186 = true := by kernel_rfl
theorem cok_187 : callOK Tryd.prog 187 = true := by kernel_rfl
theorem cok_188 : callOK Tryd.prog 188 = true := by kernel_rfl
theorem cok_189 : callOK Tryd.prog 189 = true := by kernel_rfl
theorem cok_190 : callOK Tryd.prog 190 = true := by kernel_rfl
theorem cok_191 : callOK Tryd.prog 191 = true := by kernel_rfl
theorem cok_192 : callOK Tryd.prog 192 = true := by kernel_rfl
theorem cok_193 : callOK Tryd.prog 193 = true := by kernel_rfl
theorem cok_194 : callOK Tryd.prog 194 = true := by kernel_rfl
theorem cok_195 : callOK Tryd.prog 195 = true := by kernel_rfl
theorem cok_220 : callOK Tryd.prog 220 = true := by kernel_rfl
end Go.Proofs.YtfebeomnlkfgoaaDoor
