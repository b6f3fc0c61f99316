/-
  Closed facts on the types and functions of the translation, each by the kernel. No condition.
-/
import Derived.Test.YthcmelnpcaijaaaDoorProg
import Derived.Test.YthcmelnpcaijaaaDoorWf
import Derived.KernelRfl
namespace Go.Proofs.YthcmelnpcaijaaaDoor
open Go.VS
theorem mixed_orders : Tryd.prog.follows .mixedOrders = true := by kernel_rfl
theorem tyk_2 : tyk Tryd.prog 2 = some (false, 1) := by kernel_rfl
theorem zk_2 : zeroK Tryd.prog 2 = some (1, .int .i64 0) := by kernel_rfl
theorem und_2 : Tryd.prog.underlying 2 = some (.int .i64) := by kernel_rfl
theorem tyk_3 : tyk Tryd.prog 3 = some (false, 1) := by kernel_rfl
theorem zk_3 : zeroK Tryd.prog 3 = some (1, .int .i64 0) := by kernel_rfl
theorem und_3 : Tryd.prog.underlying 3 = some (.int .i64) := by kernel_rfl
theorem tyk_4 : tyk Tryd.prog 4 = some (false, 1) := by kernel_rfl
theorem zk_4 : zeroK Tryd.prog 4 = some (1, .bool false) := by kernel_rfl
theorem und_4 : Tryd.prog.underlying 4 = some .bool := by kernel_rfl
theorem tyk_5 : tyk Tryd.prog 5 = some (false, 1) := by kernel_rfl
theorem zk_5 : zeroK Tryd.prog 5 = some (1, .int .u8 0) := by kernel_rfl
theorem und_5 : Tryd.prog.underlying 5 = some (.int .u8) := by kernel_rfl
theorem tyk_9 : tyk Tryd.prog 9 = some (false, 1) := by kernel_rfl
theorem zk_9 : zeroK Tryd.prog 9 = some (1, .str []) := by kernel_rfl
theorem istr_9 : isStr Tryd.prog 9 = true := by kernel_rfl
theorem tyk_12 : tyk Tryd.prog 12 = some (false, 1) := by kernel_rfl
theorem zk_12 : zeroK Tryd.prog 12 = some (1, .int .u64 0) := by kernel_rfl
theorem und_12 : Tryd.prog.underlying 12 = some (.int .u64) := by kernel_rfl
theorem tyk_13 : tyk Tryd.prog 13 = some (true, 2) := by kernel_rfl
theorem zk_13 : zeroK Tryd.prog 13 = some (2, .agg [.str [], .int .u64 0]) := by kernel_rfl
theorem fo_13_0 : fieldOff Tryd.prog 13 0 = some 0 := by kernel_rfl
theorem fo_13_1 : fieldOff Tryd.prog 13 1 = some 1 := by kernel_rfl
theorem tyk_21 : tyk Tryd.prog 21 = some (false, 1) := by kernel_rfl
theorem zk_21 : zeroK Tryd.prog 21 = some (1, .int .i32 0) := by kernel_rfl
theorem und_21 : Tryd.prog.underlying 21 = some (.int .i32) := by kernel_rfl
theorem tyk_22 : tyk Tryd.prog 22 = some (false, 1) := by kernel_rfl
theorem zk_22 : zeroK Tryd.prog 22 = some (1, .nils) := by kernel_rfl
theorem esz_22 : elemSz Tryd.prog 22 = some (5, 1) := by kernel_rfl
theorem eby_22 : elemBy Tryd.prog 22 = true := by kernel_rfl
theorem isl_22 : isSl Tryd.prog 22 = true := by kernel_rfl
theorem usl_22 : Tryd.prog.underlying 22 = some (.slice 5) := by kernel_rfl
theorem tyk_28 : tyk Tryd.prog 28 = some (false, 1) := by kernel_rfl
theorem zk_28 : zeroK Tryd.prog 28 = some (1, .nils) := by kernel_rfl
theorem esz_28 : elemSz Tryd.prog 28 = some (9, 1) := by kernel_rfl
theorem eby_28 : elemBy Tryd.prog 28 = true := by kernel_rfl
theorem isl_28 : isSl Tryd.prog 28 = true := by kernel_rfl
theorem usl_28 : Tryd.prog.underlying 28 = some (.slice 9) := by kernel_rfl
theorem tyk_37 : tyk Tryd.prog 37 = some (false, 1) := by kernel_rfl
theorem zk_37 : zeroK Tryd.prog 37 = some (1, .nils) := by kernel_rfl
theorem esz_37 : elemSz Tryd.prog 37 = some (72, 2) := by kernel_rfl
theorem eby_37 : elemBy Tryd.prog 37 = true := by kernel_rfl
theorem isl_37 : isSl Tryd.prog 37 = true := by kernel_rfl
theorem usl_37 : Tryd.prog.underlying 37 = some (.slice 72) := by kernel_rfl
theorem tyk_38 : tyk Tryd.prog 38 = some (true, 4) := by kernel_rfl
theorem zk_38 : zeroK Tryd.prog 38 = some (4, .agg [.int .i64 0, .int .i64 0, .int .i64 0, .nils]) := by kernel_rfl
theorem fo_38_0 : fieldOff Tryd.prog 38 0 = some 0 := by kernel_rfl
theorem fo_38_1 : fieldOff Tryd.prog 38 1 = some 1 := by kernel_rfl
theorem fo_38_2 : fieldOff Tryd.prog 38 2 = some 2 := by kernel_rfl
theorem fo_38_3 : fieldOff Tryd.prog 38 3 = some 3 := by kernel_rfl
theorem tyk_39 : tyk Tryd.prog 39 = some (true, 4) := by kernel_rfl
theorem zk_39 : zeroK Tryd.prog 39 = some (4, .agg [.int .i64 0, .int .i64 0, .int .i64 0, .nils]) := by kernel_rfl
theorem fo_39_0 : fieldOff Tryd.prog 39 0 = some 0 := by kernel_rfl
theorem fo_39_1 : fieldOff Tryd.prog 39 1 = some 1 := by kernel_rfl
theorem fo_39_2 : fieldOff Tryd.prog 39 2 = some 2 := by kernel_rfl
theorem fo_39_3 : fieldOff Tryd.prog 39 3 = some 3 := by kernel_rfl
theorem pl_39 : placesK Tryd.prog 39 = some [(0, 1), (1, 1), (2, 1), (3, 1)] := by kernel_rfl
theorem tyk_46 : tyk Tryd.prog 46 = some (false, 1) := by kernel_rfl
theorem zk_46 : zeroK Tryd.prog 46 = some (1, .nils) := by kernel_rfl
theorem esz_46 : elemSz Tryd.prog 46 = some (145, 2) := by kernel_rfl
theorem eby_46 : elemBy Tryd.prog 46 = true := by kernel_rfl
theorem isl_46 : isSl Tryd.prog 46 = true := by kernel_rfl
theorem usl_46 : Tryd.prog.underlying 46 = some (.slice 145) := by kernel_rfl
theorem tyk_71 : tyk Tryd.prog 71 = some (true, 2) := by kernel_rfl
theorem zk_71 : zeroK Tryd.prog 71 = some (2, .agg [.int .i64 0, .int .i64 0]) := by kernel_rfl
theorem fo_71_0 : fieldOff Tryd.prog 71 0 = some 0 := by kernel_rfl
theorem fo_71_1 : fieldOff Tryd.prog 71 1 = some 1 := by kernel_rfl
theorem tyk_72 : tyk Tryd.prog 72 = some (true, 2) := by kernel_rfl
theorem zk_72 : zeroK Tryd.prog 72 = some (2, .agg [.int .i64 0, .int .i64 0]) := by kernel_rfl
theorem fo_72_0 : fieldOff Tryd.prog 72 0 = some 0 := by kernel_rfl
theorem fo_72_1 : fieldOff Tryd.prog 72 1 = some 1 := by kernel_rfl
theorem fe_72 : flatStruct Tryd.prog 72 = some [0, 0] := by kernel_rfl
theorem pl_72 : placesK Tryd.prog 72 = some [(0, 1), (1, 1)] := by kernel_rfl
theorem tyk_73 : tyk Tryd.prog 73 = some (false, 1) := by kernel_rfl
theorem zk_73 : zeroK Tryd.prog 73 = some (1, .nils) := by kernel_rfl
theorem esz_73 : elemSz Tryd.prog 73 = some (39, 4) := by kernel_rfl
theorem eby_73 : elemBy Tryd.prog 73 = true := by kernel_rfl
theorem isl_73 : isSl Tryd.prog 73 = true := by kernel_rfl
theorem usl_73 : Tryd.prog.underlying 73 = some (.slice 39) := by kernel_rfl
theorem tyk_76 : tyk Tryd.prog 76 = some (false, 1) := by kernel_rfl
theorem zk_76 : zeroK Tryd.prog 76 = some (1, .nils) := by kernel_rfl
theorem esz_76 : elemSz Tryd.prog 76 = some (3, 1) := by kernel_rfl
theorem eby_76 : elemBy Tryd.prog 76 = true := by kernel_rfl
theorem isl_76 : isSl Tryd.prog 76 = true := by kernel_rfl
theorem usl_76 : Tryd.prog.underlying 76 = some (.slice 3) := by kernel_rfl
theorem tyk_81 : tyk Tryd.prog 81 = some (false, 1) := by kernel_rfl
theorem zk_81 : zeroK Tryd.prog 81 = some (1, .nils) := by kernel_rfl
theorem esz_81 : elemSz Tryd.prog 81 = some (89, 3) := by kernel_rfl
theorem eby_81 : elemBy Tryd.prog 81 = true := by kernel_rfl
theorem isl_81 : isSl Tryd.prog 81 = true := by kernel_rfl
theorem usl_81 : Tryd.prog.underlying 81 = some (.slice 89) := by kernel_rfl
theorem tyk_88 : tyk Tryd.prog 88 = some (true, 3) := by kernel_rfl
theorem zk_88 : zeroK Tryd.prog 88 = some (3, .agg [.int .i64 0, .int .i64 0, .int .i64 0]) := by kernel_rfl
theorem fo_88_0 : fieldOff Tryd.prog 88 0 = some 0 := by kernel_rfl
theorem fo_88_1 : fieldOff Tryd.prog 88 1 = some 1 := by kernel_rfl
theorem fo_88_2 : fieldOff Tryd.prog 88 2 = some 2 := by kernel_rfl
theorem tyk_89 : tyk Tryd.prog 89 = some (true, 3) := by kernel_rfl
theorem zk_89 : zeroK Tryd.prog 89 = some (3, .agg [.int .i64 0, .int .i64 0, .int .i64 0]) := by kernel_rfl
theorem fo_89_0 : fieldOff Tryd.prog 89 0 = some 0 := by kernel_rfl
theorem fo_89_1 : fieldOff Tryd.prog 89 1 = some 1 := by kernel_rfl
theorem fo_89_2 : fieldOff Tryd.prog 89 2 = some 2 := by kernel_rfl
theorem fe_89 : flatStruct Tryd.prog 89 = some [0, 0, 0] := by kernel_rfl
theorem pl_89 : placesK Tryd.prog 89 = some [(0, 1), (1, 1), (2, 1)] := by kernel_rfl
theorem tyk_96 : tyk Tryd.prog 96 = some (false, 1) := by kernel_rfl
theorem zk_96 : zeroK Tryd.prog 96 = some (1, .nils) := by kernel_rfl
theorem esz_96 : elemSz Tryd.prog 96 = some (182, 7) := by kernel_rfl
theorem eby_96 : elemBy Tryd.prog 96 = true := by kernel_rfl
theorem isl_96 : isSl Tryd.prog 96 = true := by kernel_rfl
theorem usl_96 : Tryd.prog.underlying 96 = some (.slice 182) := by kernel_rfl
theorem tyk_102 : tyk Tryd.prog 102 = some (false, 1) := by kernel_rfl
theorem zk_102 : zeroK Tryd.prog 102 = some (1, .nils) := by kernel_rfl
theorem esz_102 : elemSz Tryd.prog 102 = some (76, 1) := by kernel_rfl
theorem eby_102 : elemBy Tryd.prog 102 = true := by kernel_rfl
theorem isl_102 : isSl Tryd.prog 102 = true := by kernel_rfl
theorem usl_102 : Tryd.prog.underlying 102 = some (.slice 76) := by kernel_rfl
theorem tyk_113 : tyk Tryd.prog 113 = some (false, 1) := by kernel_rfl
theorem zk_113 : zeroK Tryd.prog 113 = some (1, .nils) := by kernel_rfl
theorem esz_113 : elemSz Tryd.prog 113 = some (120, 4) := by kernel_rfl
theorem eby_113 : elemBy Tryd.prog 113 = true := by kernel_rfl
theorem isl_113 : isSl Tryd.prog 113 = true := by kernel_rfl
theorem usl_113 : Tryd.prog.underlying 113 = some (.slice 120) := by kernel_rfl
theorem tyk_119 : tyk Tryd.prog 119 = some (true, 4) := by kernel_rfl
theorem zk_119 : zeroK Tryd.prog 119 = some (4, .agg [.int .i64 0, .str [], .int .i64 0, .nils]) := by kernel_rfl
theorem fo_119_0 : fieldOff Tryd.prog 119 0 = some 0 := by kernel_rfl
theorem fo_119_1 : fieldOff Tryd.prog 119 1 = some 1 := by kernel_rfl
theorem fo_119_2 : fieldOff Tryd.prog 119 2 = some 2 := by kernel_rfl
theorem fo_119_3 : fieldOff Tryd.prog 119 3 = some 3 := by kernel_rfl
theorem tyk_120 : tyk Tryd.prog 120 = some (true, 4) := by kernel_rfl
theorem zk_120 : zeroK Tryd.prog 120 = some (4, .agg [.int .i64 0, .str [], .int .i64 0, .nils]) := by kernel_rfl
theorem fo_120_0 : fieldOff Tryd.prog 120 0 = some 0 := by kernel_rfl
theorem fo_120_1 : fieldOff Tryd.prog 120 1 = some 1 := by kernel_rfl
theorem fo_120_2 : fieldOff Tryd.prog 120 2 = some 2 := by kernel_rfl
theorem fo_120_3 : fieldOff Tryd.prog 120 3 = some 3 := by kernel_rfl
theorem pl_120 : placesK Tryd.prog 120 = some [(0, 1), (1, 1), (2, 1), (3, 1)] := by kernel_rfl
theorem tyk_125 : tyk Tryd.prog 125 = some (false, 1) := by kernel_rfl
theorem tyk_126 : tyk Tryd.prog 126 = some (false, 1) := by kernel_rfl
theorem zk_126 : zeroK Tryd.prog 126 = some (1, .int .u64 0) := by kernel_rfl
theorem und_126 : Tryd.prog.underlying 126 = some (.int .u64) := by kernel_rfl
theorem tyk_127 : tyk Tryd.prog 127 = some (true, 3) := by kernel_rfl
theorem zk_127 : zeroK Tryd.prog 127 = some (3, .agg [.nils, .int .i64 0, .int .u64 0]) := by kernel_rfl
theorem fo_127_0 : fieldOff Tryd.prog 127 0 = some 0 := by kernel_rfl
theorem fo_127_1 : fieldOff Tryd.prog 127 1 = some 1 := by kernel_rfl
theorem fo_127_2 : fieldOff Tryd.prog 127 2 = some 2 := by kernel_rfl
theorem tyk_128 : tyk Tryd.prog 128 = some (true, 3) := by kernel_rfl
theorem zk_128 : zeroK Tryd.prog 128 = some (3, .agg [.nils, .int .i64 0, .int .u64 0]) := by kernel_rfl
theorem fo_128_0 : fieldOff Tryd.prog 128 0 = some 0 := by kernel_rfl
theorem fo_128_1 : fieldOff Tryd.prog 128 1 = some 1 := by kernel_rfl
theorem fo_128_2 : fieldOff Tryd.prog 128 2 = some 2 := by kernel_rfl
theorem pl_128 : placesK Tryd.prog 128 = some [(0, 1), (1, 1), (2, 1)] := by kernel_rfl
theorem tyk_145 : tyk Tryd.prog 145 = some (true, 2) := by kernel_rfl
theorem zk_145 : zeroK Tryd.prog 145 = some (2, .agg [.int .i64 0, .int .i64 0]) := by kernel_rfl
theorem eg_145 : Tryd.prog.eqGuardType Tryd.prog.depth 145 = false := by kernel_rfl
theorem und_145 : Tryd.prog.underlying 145 = some (.array 2 3) := by kernel_rfl
theorem tyk_181 : tyk Tryd.prog 181 = some (true, 7) := by kernel_rfl
theorem zk_181 : zeroK Tryd.prog 181 = some (7, .agg [.int .i64 0, .int .i64 0, .str [], .int .i64 0, .int .i64 0, .int .i64 0, .int .i64 0]) := by kernel_rfl
theorem fo_181_0 : fieldOff Tryd.prog 181 0 = some 0 := by kernel_rfl
theorem fo_181_1 : fieldOff Tryd.prog 181 1 = some 1 := by kernel_rfl
theorem fo_181_2 : fieldOff Tryd.prog 181 2 = some 2 := by kernel_rfl
theorem fo_181_3 : fieldOff Tryd.prog 181 3 = some 3 := by kernel_rfl
theorem fo_181_4 : fieldOff Tryd.prog 181 4 = some 4 := by kernel_rfl
theorem fo_181_5 : fieldOff Tryd.prog 181 5 = some 5 := by kernel_rfl
theorem fo_181_6 : fieldOff Tryd.prog 181 6 = some 6 := by kernel_rfl
theorem tyk_182 : tyk Tryd.prog 182 = some (true, 7) := by kernel_rfl
theorem zk_182 : zeroK Tryd.prog 182 = some (7, .agg [.int .i64 0, .int .i64 0, .str [], .int .i64 0, .int .i64 0, .int .i64 0, .int .i64 0]) := by kernel_rfl
theorem fo_182_0 : fieldOff Tryd.prog 182 0 = some 0 := by kernel_rfl
theorem fo_182_1 : fieldOff Tryd.prog 182 1 = some 1 := by kernel_rfl
theorem fo_182_2 : fieldOff Tryd.prog 182 2 = some 2 := by kernel_rfl
theorem fo_182_3 : fieldOff Tryd.prog 182 3 = some 3 := by kernel_rfl
theorem fo_182_4 : fieldOff Tryd.prog 182 4 = some 4 := by kernel_rfl
theorem fo_182_5 : fieldOff Tryd.prog 182 5 = some 5 := by kernel_rfl
theorem fo_182_6 : fieldOff Tryd.prog 182 6 = some 6 := by kernel_rfl
theorem fe_182 : flatStruct Tryd.prog 182 = some [0, 0, 2, 0, 0, 0, 0] := by kernel_rfl
theorem pl_182 : placesK Tryd.prog 182 = some [(0, 1), (1, 1), (2, 1), (3, 1), (4, 1), (5, 1), (6, 1)] := by kernel_rfl
theorem tyk_217 : tyk Tryd.prog 217 = some (false, 1) := by kernel_rfl
theorem zk_217 : zeroK Tryd.prog 217 = some (1, .int .u64 0) := by kernel_rfl
theorem und_217 : Tryd.prog.underlying 217 = some (.int .u64) := by kernel_rfl
theorem tyk_220 : tyk Tryd.prog 220 = some (true, 256) := by kernel_rfl
theorem zk_220 : zeroK Tryd.prog 220 = some (256, .agg [.bool false, .bool false, .bool false, .bool false, .bool false, .bool false, .bool false, .bool false, .bool false, .bool false, .bool false, .bool false, .bool false, .bool false, .bool false, .bool false, .bool false, .bool false, .bool false, .bool false, .bool false, .bool false, .bool false, .bool false, .bool false, .bool false, .bool false, .bool false, .bool false, .bool false, .bool false, .bool false, .bool false, .bool false, .bool false, .bool false, .bool false, .bool false, .bool false, .bool false, .bool false, .bool false, .bool false, .bool false, .bool false, .bool false, .bool false, .bool false, .bool false, .bool false, .bool false, .bool false, .bool false, .bool false, .bool false, .bool false, .bool false, .bool false, .bool false, .bool false, .bool false, .bool false, .bool false, .bool false, .bool false, .bool false, .bool false, .bool false, .bool false, .bool false, .bool false, .bool false, .bool false, .bool false, .bool false, .bool false, .bool false, .bool false, .bool false, .bool false, .bool false, .bool false, .bool false, .bool false, .bool false, .bool false, .bool false, .bool false, .bool false, .bool false, .bool false, .bool false, .bool false, .bool false, .bool false, .bool false, .bool false, .bool false, .bool false, .bool false, .bool false, .bool false, .bool false, .bool false, .bool false, .bool false, .bool false, .bool false, .bool false, .bool false, .bool false, .bool false, .bool false, .bool false, .bool false, .bool false, .bool false, .bool false, .bool false, .bool false, .bool false, .bool false, .bool false, .bool false, .bool false, .bool false, .bool false, .bool false, .bool false, .bool false, .bool false, .bool false, .bool false, .bool false, .bool false, .bool false, .bool false, .bool false, .bool false, .bool false, .bool false, .bool false, .bool false, .bool false, .bool false, .bool false, .bool false, .bool false, .bool false, .bool false, .bool false, .bool false, .bool false, .bool false, .bool false, .bool false, .bool false, .bool false, .bool false, .bool false, .bool false, .bool false, .bool false, .bool false, .bool false, .bool false, .bool false, .bool false, .bool false, .bool false, .bool false, .bool false, .bool false, .bool false, .bool false, .bool false, .bool false, .bool false, .bool false, .bool false, .bool false, .bool false, .bool false, .bool false, .bool false, .bool false, .bool false, .bool false, .bool false, .bool false, .bool false, .bool false, .bool false, .bool false, .bool false, .bool false, .bool false, .bool false, .bool false, .bool false, .bool false, .bool false, .bool false, .bool false, .bool false, .bool false, .bool false, .bool false, .bool false, .bool false, .bool false, .bool false, .bool false, .bool false, .bool false, .bool false, .bool false, .bool false, .bool false, .bool false, .bool false, .bool false, .bool false, .bool false, .bool false, .bool false, .bool false, .bool false, .bool false, .bool false, .bool false, .bool false, .bool false, .bool false, .bool false, .bool false, .bool false, .bool false, .bool false, .bool false, .bool false, .bool false, .bool false, .bool false, .bool false, .bool false, .bool false, .bool false, .bool false, .bool false, .bool false, .bool false, .bool false, .bool false, .bool false, .bool false]) := by kernel_rfl
theorem und_220 : Tryd.prog.underlying 220 = some (.array 256 4) := by kernel_rfl
theorem tyk_221 : tyk Tryd.prog 221 = some (true, 256) := by kernel_rfl
theorem zk_221 : zeroK Tryd.prog 221 = some (256, .agg [.bool false, .bool false, .bool false, .bool false, .bool false, .bool false, .bool false, .bool false, .bool false, .bool false, .bool false, .bool false, .bool false, .bool false, .bool false, .bool false, .bool false, .bool false, .bool false, .bool false, .bool false, .bool false, .bool false, .bool false, .bool false, .bool false, .bool false, .bool false, .bool false, .bool false, .bool false, .bool false, .bool false, .bool false, .bool false, .bool false, .bool false, .bool false, .bool false, .bool false, .bool false, .bool false, .bool false, .bool false, .bool false, .bool false, .bool false, .bool false, .bool false, .bool false, .bool false, .bool false, .bool false, .bool false, .bool false, .bool false, .bool false, .bool false, .bool false, .bool false, .bool false, .bool false, .bool false, .bool false, .bool false, .bool false, .bool false, .bool false, .bool false, .bool false, .bool false, .bool false, .bool false, .bool false, .bool false, .bool false, .bool false, .bool false, .bool false, .bool false, .bool false, .bool false, .bool false, .bool false, .bool false, .bool false, .bool false, .bool false, .bool false, .bool false, .bool false, .bool false, .bool false, .bool false, .bool false, .bool false, .bool false, .bool false, .bool false, .bool false, .bool false, .bool false, .bool false, .bool false, .bool false, .bool false, .bool false, .bool false, .bool false, .bool false, .bool false, .bool false, .bool false, .bool false, .bool false, .bool false, .bool false, .bool false, .bool false, .bool false, .bool false, .bool false, .bool false, .bool false, .bool false, .bool false, .bool false, .bool false, .bool false, .bool false, .bool false, .bool false, .bool false, .bool false, .bool false, .bool false, .bool false, .bool false, .bool false, .bool false, .bool false, .bool false, .bool false, .bool false, .bool false, .bool false, .bool false, .bool false, .bool false, .bool false, .bool false, .bool false, .bool false, .bool false, .bool false, .bool false, .bool false, .bool false, .bool false, .bool false, .bool false, .bool false, .bool false, .bool false, .bool false, .bool false, .bool false, .bool false, .bool false, .bool false, .bool false, .bool false, .bool false, .bool false, .bool false, .bool false, .bool false, .bool false, .bool false, .bool false, .bool false, .bool false, .bool false, .bool false, .bool false, .bool false, .bool false, .bool false, .bool false, .bool false, .bool false, .bool false, .bool false, .bool false, .bool false, .bool false, .bool false, .bool false, .bool false, .bool false, .bool false, .bool false, .bool false, .bool false, .bool false, .bool false, .bool false, .bool false, .bool false, .bool false, .bool false, .bool false, .bool false, .bool false, .bool false, .bool false, .bool false, .bool false, .bool false, .bool false, .bool false, .bool false, .bool false, .bool false, .bool false, .bool false, .bool false, .bool false, .bool false, .bool false, .bool false, .bool false, .bool false, .bool false, .bool false, .bool false, .bool false, .bool false, .bool false, .bool false, .bool false, .bool false, .bool false, .bool false, .bool false, .bool false, .bool false, .bool false, .bool false, .bool false, .bool false, .bool false, .bool false, .bool false, .bool false, .bool false]) := by kernel_rfl
theorem und_221 : Tryd.prog.underlying 221 = some (.array 256 4) := by kernel_rfl
theorem tyk_225 : tyk Tryd.prog 225 = some (false, 1) := by kernel_rfl
theorem tyk_237 : tyk Tryd.prog 237 = some (false, 1) := by kernel_rfl
theorem zk_237 : zeroK Tryd.prog 237 = some (1, .int .i64 0) := by kernel_rfl
theorem und_237 : Tryd.prog.underlying 237 = some (.int .i64) := by kernel_rfl
theorem tyk_240 : tyk Tryd.prog 240 = some (false, 1) := by kernel_rfl
theorem tyk_248 : tyk Tryd.prog 248 = some (false, 1) := by kernel_rfl
theorem zk_248 : zeroK Tryd.prog 248 = some (1, .int .i64 0) := by kernel_rfl
theorem und_248 : Tryd.prog.underlying 248 = some (.int .i64) := by kernel_rfl
theorem tyk_255 : tyk Tryd.prog 255 = some (false, 1) := by kernel_rfl
theorem zk_255 : zeroK Tryd.prog 255 = some (1, .int .u32 0) := by kernel_rfl
theorem und_255 : Tryd.prog.underlying 255 = some (.int .u32) := by kernel_rfl
theorem tyk_266 : tyk Tryd.prog 266 = some (true, 3) := by kernel_rfl
theorem fo_266_0 : fieldOff Tryd.prog 266 0 = some 0 := by kernel_rfl
theorem fo_266_1 : fieldOff Tryd.prog 266 1 = some 1 := by kernel_rfl
theorem fo_266_2 : fieldOff Tryd.prog 266 2 = some 2 := by kernel_rfl
theorem tyk_267 : tyk Tryd.prog 267 = some (true, 3) := by kernel_rfl
theorem fo_267_0 : fieldOff Tryd.prog 267 0 = some 0 := by kernel_rfl
theorem fo_267_1 : fieldOff Tryd.prog 267 1 = some 1 := by kernel_rfl
theorem fo_267_2 : fieldOff Tryd.prog 267 2 = some 2 := by kernel_rfl
theorem pl_267 : placesK Tryd.prog 267 = some [(0, 1), (1, 1), (2, 1)] := by kernel_rfl
theorem tyk_270 : tyk Tryd.prog 270 = some (false, 1) := by kernel_rfl
theorem zk_270 : zeroK Tryd.prog 270 = some (1, .int .u64 0) := by kernel_rfl
theorem und_270 : Tryd.prog.underlying 270 = some (.int .u64) := by kernel_rfl
theorem tyk_274 : tyk Tryd.prog 274 = some (false, 1) := by kernel_rfl
theorem tyk_282 : tyk Tryd.prog 282 = some (true, 24) := by kernel_rfl
theorem zk_282 : zeroK Tryd.prog 282 = some (24, .agg [.int .u8 0, .int .u8 0, .int .u8 0, .int .u8 0, .int .u8 0, .int .u8 0, .int .u8 0, .int .u8 0, .int .u8 0, .int .u8 0, .int .u8 0, .int .u8 0, .int .u8 0, .int .u8 0, .int .u8 0, .int .u8 0, .int .u8 0, .int .u8 0, .int .u8 0, .int .u8 0, .int .u8 0, .int .u8 0, .int .u8 0, .int .u8 0]) := by kernel_rfl
theorem eg_282 : Tryd.prog.eqGuardType Tryd.prog.depth 282 = false := by kernel_rfl
theorem und_282 : Tryd.prog.underlying 282 = some (.array 24 5) := by kernel_rfl
theorem tyk_287 : tyk Tryd.prog 287 = some (false, 1) := by kernel_rfl
theorem tyk_288 : tyk Tryd.prog 288 = some (false, 1) := by kernel_rfl
theorem tyk_289 : tyk Tryd.prog 289 = some (true, 1) := by kernel_rfl
theorem zk_289 : zeroK Tryd.prog 289 = some (1, .agg [.str []]) := by kernel_rfl
theorem fo_289_0 : fieldOff Tryd.prog 289 0 = some 0 := by kernel_rfl
theorem tyk_290 : tyk Tryd.prog 290 = some (true, 1) := by kernel_rfl
theorem zk_290 : zeroK Tryd.prog 290 = some (1, .agg [.str []]) := by kernel_rfl
theorem fo_290_0 : fieldOff Tryd.prog 290 0 = some 0 := by kernel_rfl
theorem fe_290 : flatStruct Tryd.prog 290 = some [2] := by kernel_rfl
theorem pl_290 : placesK Tryd.prog 290 = some [(0, 1)] := by kernel_rfl
theorem tyk_293 : tyk Tryd.prog 293 = some (true, 256) := by kernel_rfl
theorem zk_293 : zeroK Tryd.prog 293 = some (256, .agg [.int .u8 0, .int .u8 0, .int .u8 0, .int .u8 0, .int .u8 0, .int .u8 0, .int .u8 0, .int .u8 0, .int .u8 0, .int .u8 0, .int .u8 0, .int .u8 0, .int .u8 0, .int .u8 0, .int .u8 0, .int .u8 0, .int .u8 0, .int .u8 0, .int .u8 0, .int .u8 0, .int .u8 0, .int .u8 0, .int .u8 0, .int .u8 0, .int .u8 0, .int .u8 0, .int .u8 0, .int .u8 0, .int .u8 0, .int .u8 0, .int .u8 0, .int .u8 0, .int .u8 0, .int .u8 0, .int .u8 0, .int .u8 0, .int .u8 0, .int .u8 0, .int .u8 0, .int .u8 0, .int .u8 0, .int .u8 0, .int .u8 0, .int .u8 0, .int .u8 0, .int .u8 0, .int .u8 0, .int .u8 0, .int .u8 0, .int .u8 0, .int .u8 0, .int .u8 0, .int .u8 0, .int .u8 0, .int .u8 0, .int .u8 0, .int .u8 0, .int .u8 0, .int .u8 0, .int .u8 0, .int .u8 0, .int .u8 0, .int .u8 0, .int .u8 0, .int .u8 0, .int .u8 0, .int .u8 0, .int .u8 0, .int .u8 0, .int .u8 0, .int .u8 0, .int .u8 0, .int .u8 0, .int .u8 0, .int .u8 0, .int .u8 0, .int .u8 0, .int .u8 0, .int .u8 0, .int .u8 0, .int .u8 0, .int .u8 0, .int .u8 0, .int .u8 0, .int .u8 0, .int .u8 0, .int .u8 0, .int .u8 0, .int .u8 0, .int .u8 0, .int .u8 0, .int .u8 0, .int .u8 0, .int .u8 0, .int .u8 0, .int .u8 0, .int .u8 0, .int .u8 0, .int .u8 0, .int .u8 0, .int .u8 0, .int .u8 0, .int .u8 0, .int .u8 0, .int .u8 0, .int .u8 0, .int .u8 0, .int .u8 0, .int .u8 0, .int .u8 0, .int .u8 0, .int .u8 0, .int .u8 0, .int .u8 0, .int .u8 0, .int .u8 0, .int .u8 0, .int .u8 0, .int .u8 0, .int .u8 0, .int .u8 0, .int .u8 0, .int .u8 0, .int .u8 0, .int .u8 0, .int .u8 0, .int .u8 0, .int .u8 0, .int .u8 0, .int .u8 0, .int .u8 0, .int .u8 0, .int .u8 0, .int .u8 0, .int .u8 0, .int .u8 0, .int .u8 0, .int .u8 0, .int .u8 0, .int .u8 0, .int .u8 0, .int .u8 0, .int .u8 0, .int .u8 0, .int .u8 0, .int .u8 0, .int .u8 0, .int .u8 0, .int .u8 0, .int .u8 0, .int .u8 0, .int .u8 0, .int .u8 0, .int .u8 0, .int .u8 0, .int .u8 0, .int .u8 0, .int .u8 0, .int .u8 0, .int .u8 0, .int .u8 0, .int .u8 0, .int .u8 0, .int .u8 0, .int .u8 0, .int .u8 0, .int .u8 0, .int .u8 0, .int .u8 0, .int .u8 0, .int .u8 0, .int .u8 0, .int .u8 0, .int .u8 0, .int .u8 0, .int .u8 0, .int .u8 0, .int .u8 0, .int .u8 0, .int .u8 0, .int .u8 0, .int .u8 0, .int .u8 0, .int .u8 0, .int .u8 0, .int .u8 0, .int .u8 0, .int .u8 0, .int .u8 0, .int .u8 0, .int .u8 0, .int .u8 0, .int .u8 0, .int .u8 0, .int .u8 0, .int .u8 0, .int .u8 0, .int .u8 0, .int .u8 0, .int .u8 0, .int .u8 0, .int .u8 0, .int .u8 0, .int .u8 0, .int .u8 0, .int .u8 0, .int .u8 0, .int .u8 0, .int .u8 0, .int .u8 0, .int .u8 0, .int .u8 0, .int .u8 0, .int .u8 0, .int .u8 0, .int .u8 0, .int .u8 0, .int .u8 0, .int .u8 0, .int .u8 0, .int .u8 0, .int .u8 0, .int .u8 0, .int .u8 0, .int .u8 0, .int .u8 0, .int .u8 0, .int .u8 0, .int .u8 0, .int .u8 0, .int .u8 0, .int .u8 0, .int .u8 0, .int .u8 0, .int .u8 0, .int .u8 0, .int .u8 0, .int .u8 0, .int .u8 0, .int .u8 0, .int .u8 0, .int .u8 0, .int .u8 0, .int .u8 0, .int .u8 0, .int .u8 0, .int .u8 0, .int .u8 0, .int .u8 0, .int .u8 0, .int .u8 0, .int .u8 0, .int .u8 0, .int .u8 0, .int .u8 0, .int .u8 0]) := by kernel_rfl
theorem eg_293 : Tryd.prog.eqGuardType Tryd.prog.depth 293 = false := by kernel_rfl
theorem und_293 : Tryd.prog.underlying 293 = some (.array 256 5) := by kernel_rfl
theorem tyk_294 : tyk Tryd.prog 294 = some (true, 2) := by kernel_rfl
theorem zk_294 : zeroK Tryd.prog 294 = some (2, .agg [.int .u8 0, .int .u8 0]) := by kernel_rfl
theorem fo_294_0 : fieldOff Tryd.prog 294 0 = some 0 := by kernel_rfl
theorem fo_294_1 : fieldOff Tryd.prog 294 1 = some 1 := by kernel_rfl
theorem tyk_295 : tyk Tryd.prog 295 = some (true, 2) := by kernel_rfl
theorem zk_295 : zeroK Tryd.prog 295 = some (2, .agg [.int .u8 0, .int .u8 0]) := by kernel_rfl
theorem fo_295_0 : fieldOff Tryd.prog 295 0 = some 0 := by kernel_rfl
theorem fo_295_1 : fieldOff Tryd.prog 295 1 = some 1 := by kernel_rfl
theorem fe_295 : flatStruct Tryd.prog 295 = some [0, 0] := by kernel_rfl
theorem pl_295 : placesK Tryd.prog 295 = some [(0, 1), (1, 1)] := by kernel_rfl
theorem tyk_296 : tyk Tryd.prog 296 = some (true, 32) := by kernel_rfl
theorem zk_296 : zeroK Tryd.prog 296 = some (32, .agg [.int .u8 0, .int .u8 0, .int .u8 0, .int .u8 0, .int .u8 0, .int .u8 0, .int .u8 0, .int .u8 0, .int .u8 0, .int .u8 0, .int .u8 0, .int .u8 0, .int .u8 0, .int .u8 0, .int .u8 0, .int .u8 0, .int .u8 0, .int .u8 0, .int .u8 0, .int .u8 0, .int .u8 0, .int .u8 0, .int .u8 0, .int .u8 0, .int .u8 0, .int .u8 0, .int .u8 0, .int .u8 0, .int .u8 0, .int .u8 0, .int .u8 0, .int .u8 0]) := by kernel_rfl
theorem und_296 : Tryd.prog.underlying 296 = some (.array 16 295) := by kernel_rfl
theorem tyk_297 : tyk Tryd.prog 297 = some (false, 1) := by kernel_rfl
theorem tyk_303 : tyk Tryd.prog 303 = some (true, 20) := by kernel_rfl
theorem zk_303 : zeroK Tryd.prog 303 = some (20, .agg [.int .u64 0, .int .u64 0, .int .u64 0, .int .u64 0, .int .u64 0, .int .u64 0, .int .u64 0, .int .u64 0, .int .u64 0, .int .u64 0, .int .u64 0, .int .u64 0, .int .u64 0, .int .u64 0, .int .u64 0, .int .u64 0, .int .u64 0, .int .u64 0, .int .u64 0, .int .u64 0]) := by kernel_rfl
theorem eg_303 : Tryd.prog.eqGuardType Tryd.prog.depth 303 = false := by kernel_rfl
theorem und_303 : Tryd.prog.underlying 303 = some (.array 20 126) := by kernel_rfl
theorem tyk_304 : tyk Tryd.prog 304 = some (true, 65) := by kernel_rfl
theorem zk_304 : zeroK Tryd.prog 304 = some (65, .agg [.int .u8 0, .int .u8 0, .int .u8 0, .int .u8 0, .int .u8 0, .int .u8 0, .int .u8 0, .int .u8 0, .int .u8 0, .int .u8 0, .int .u8 0, .int .u8 0, .int .u8 0, .int .u8 0, .int .u8 0, .int .u8 0, .int .u8 0, .int .u8 0, .int .u8 0, .int .u8 0, .int .u8 0, .int .u8 0, .int .u8 0, .int .u8 0, .int .u8 0, .int .u8 0, .int .u8 0, .int .u8 0, .int .u8 0, .int .u8 0, .int .u8 0, .int .u8 0, .int .u8 0, .int .u8 0, .int .u8 0, .int .u8 0, .int .u8 0, .int .u8 0, .int .u8 0, .int .u8 0, .int .u8 0, .int .u8 0, .int .u8 0, .int .u8 0, .int .u8 0, .int .u8 0, .int .u8 0, .int .u8 0, .int .u8 0, .int .u8 0, .int .u8 0, .int .u8 0, .int .u8 0, .int .u8 0, .int .u8 0, .int .u8 0, .int .u8 0, .int .u8 0, .int .u8 0, .int .u8 0, .int .u8 0, .int .u8 0, .int .u8 0, .int .u8 0, .int .u8 0]) := by kernel_rfl
theorem eg_304 : Tryd.prog.eqGuardType Tryd.prog.depth 304 = false := by kernel_rfl
theorem und_304 : Tryd.prog.underlying 304 = some (.array 65 5) := by kernel_rfl
theorem tyk_306 : tyk Tryd.prog 306 = some (true, 32) := by kernel_rfl
theorem zk_306 : zeroK Tryd.prog 306 = some (32, .agg [.int .u8 0, .int .u8 0, .int .u8 0, .int .u8 0, .int .u8 0, .int .u8 0, .int .u8 0, .int .u8 0, .int .u8 0, .int .u8 0, .int .u8 0, .int .u8 0, .int .u8 0, .int .u8 0, .int .u8 0, .int .u8 0, .int .u8 0, .int .u8 0, .int .u8 0, .int .u8 0, .int .u8 0, .int .u8 0, .int .u8 0, .int .u8 0, .int .u8 0, .int .u8 0, .int .u8 0, .int .u8 0, .int .u8 0, .int .u8 0, .int .u8 0, .int .u8 0]) := by kernel_rfl
theorem eg_306 : Tryd.prog.eqGuardType Tryd.prog.depth 306 = false := by kernel_rfl
theorem und_306 : Tryd.prog.underlying 306 = some (.array 32 5) := by kernel_rfl
theorem tyk_307 : tyk Tryd.prog 307 = some (true, 64) := by kernel_rfl
theorem zk_307 : zeroK Tryd.prog 307 = some (64, .agg [.int .u8 0, .int .u8 0, .int .u8 0, .int .u8 0, .int .u8 0, .int .u8 0, .int .u8 0, .int .u8 0, .int .u8 0, .int .u8 0, .int .u8 0, .int .u8 0, .int .u8 0, .int .u8 0, .int .u8 0, .int .u8 0, .int .u8 0, .int .u8 0, .int .u8 0, .int .u8 0, .int .u8 0, .int .u8 0, .int .u8 0, .int .u8 0, .int .u8 0, .int .u8 0, .int .u8 0, .int .u8 0, .int .u8 0, .int .u8 0, .int .u8 0, .int .u8 0, .int .u8 0, .int .u8 0, .int .u8 0, .int .u8 0, .int .u8 0, .int .u8 0, .int .u8 0, .int .u8 0, .int .u8 0, .int .u8 0, .int .u8 0, .int .u8 0, .int .u8 0, .int .u8 0, .int .u8 0, .int .u8 0, .int .u8 0, .int .u8 0, .int .u8 0, .int .u8 0, .int .u8 0, .int .u8 0, .int .u8 0, .int .u8 0, .int .u8 0, .int .u8 0, .int .u8 0, .int .u8 0, .int .u8 0, .int .u8 0, .int .u8 0, .int .u8 0]) := by kernel_rfl
theorem eg_307 : Tryd.prog.eqGuardType Tryd.prog.depth 307 = false := by kernel_rfl
theorem und_307 : Tryd.prog.underlying 307 = some (.array 64 5) := by kernel_rfl
theorem cok_3 : callOK Tryd.prog 3 = true := by kernel_rfl
theorem cok_4 : callOK Tryd.prog 4 = true := by kernel_rfl
theorem cok_5 : callOK Tryd.prog 5 = true := by kernel_rfl
theorem cok_6 : callOK Tryd.prog 6 = true := by kernel_rfl
theorem cok_7 : callOK Tryd.prog 7 = true := by kernel_rfl
theorem cok_8 : callOK Tryd.prog 8 = true := by kernel_rfl
theorem cok_9 : callOK Tryd.prog 9 = true := by kernel_rfl
theorem cok_10 : callOK Tryd.prog 10 = true := by kernel_rfl
theorem cok_11 : callOK Tryd.prog 11 = true := by kernel_rfl
theorem cok_12 : callOK Tryd.prog 12 = true := by kernel_rfl
theorem cok_13 : callOK Tryd.prog 13 = true := by kernel_rfl
theorem cok_14 : callOK Tryd.prog 14 = true := by kernel_rfl
theorem cok_15 : callOK Tryd.prog 15 = true := by kernel_rfl
theorem cok_16 : callOK Tryd.prog 16 = true := by kernel_rfl
theorem cok_17 : callOK Tryd.prog 17 = true := by kernel_rfl
theorem cok_18 : callOK Tryd.prog 18 = true := by kernel_rfl
theorem cok_19 : callOK Tryd.prog 19 = true := by kernel_rfl
theorem cok_20 : callOK Tryd.prog 20 = true := by kernel_rfl
theorem cok_21 : callOK Tryd.prog 21 = true := by kernel_rfl
theorem cok_22 : callOK Tryd.prog 22 = true := by kernel_rfl
theorem cok_23 : callOK Tryd.prog 23 = true := by kernel_rfl
theorem cok_24 : callOK Tryd.prog 24 = true := by kernel_rfl
theorem cok_25 : callOK Tryd.prog 25 = true := by kernel_rfl
theorem cok_26 : callOK Tryd.prog 26 = true := by kernel_rfl
theorem cok_27 : callOK Tryd.prog 27 = true := by kernel_rfl
theorem cok_28 : callOK Tryd.prog 28 = true := by kernel_rfl
theorem cok_29 : callOK Tryd.prog 29 = true := by kernel_rfl
theorem cok_30 : callOK Tryd.prog 30 = true := by kernel_rfl
theorem cok_31 : callOK Tryd.prog 31 = true := by kernel_rfl
theorem cok_32 : callOK Tryd.prog 32 = true := by kernel_rfl
theorem cok_33 : callOK Tryd.prog 33 = true := by kernel_rfl
theorem cok_34 : callOK Tryd.prog 34 = true := by kernel_rfl
theorem cok_35 : callOK Tryd.prog 35 = true := by kernel_rfl
theorem cok_36 : callOK Tryd.prog 36 = true := by kernel_rfl
theorem cok_37 : callOK Tryd.prog 37 = true := by kernel_rfl
theorem cok_38 : callOK Tryd.prog 38 = true := by kernel_rfl
theorem cok_39 : callOK Tryd.prog 39 = true := by kernel_rfl
theorem cok_40 : callOK Tryd.prog 40 = true := by kernel_rfl
theorem cok_41 : callOK Tryd.prog 41 = true := by kernel_rfl
theorem cok_42 : callOK Tryd.prog 42 = true := by kernel_rfl
theorem cok_43 : callOK Tryd.prog 43 = true := by kernel_rfl
theorem cok_44 : callOK Tryd.prog 44 = true := by kernel_rfl
theorem cok_45 : callOK Tryd.prog 45 = true := by kernel_rfl
theorem cok_46 : callOK Tryd.prog 46 = true := by kernel_rfl
theorem cok_47 : callOK Tryd.prog 47 = true := by kernel_rfl
theorem cok_48 : callOK Tryd.prog 48 = true := by kernel_rfl
theorem cok_49 : callOK Tryd.prog 49 = true := by kernel_rfl
theorem cok_50 : callOK Tryd.prog 50 = true := by kernel_rfl
theorem cok_51 : callOK Tryd.prog 51 = true := by kernel_rfl
theorem cok_52 : callOK Tryd.prog 52 = true := by kernel_rfl
theorem cok_53 : callOK Tryd.prog 53 = true := by kernel_rfl
theorem cok_54 : callOK Tryd.prog 54 = true := by kernel_rfl
theorem cok_55 : callOK Tryd.prog 55 = true := by kernel_rfl
theorem cok_56 : callOK Tryd.prog 56 = true := by kernel_rfl
theorem cok_57 : callOK Tryd.prog 57 = true := by kernel_rfl
theorem cok_58 : callOK Tryd.prog 58 = true := by kernel_rfl
theorem cok_59 : callOK Tryd.prog 59 = true := by kernel_rfl
theorem cok_60 : callOK Tryd.prog 60 = true := by kernel_rfl
theorem cok_61 : callOK Tryd.prog 61 = true := by kernel_rfl
theorem cok_62 : callOK Tryd.prog 62 = true := by kernel_rfl
theorem cok_63 : callOK Tryd.prog 63 = true := by kernel_rfl
theorem cok_64 : callOK Tryd.prog 64 = true := by kernel_rfl
theorem cok_65 : callOK Tryd.prog 65 = true := by kernel_rfl
theorem cok_66 : callOK Tryd.prog 66 = true := by kernel_rfl
theorem cok_67 : callOK Tryd.prog 67 = true := by kernel_rfl
theorem cok_68 : callOK Tryd.prog 68 = true := by kernel_rfl
theorem cok_69 : callOK Tryd.prog 69 = true := by kernel_rfl
theorem cok_70 : callOK Tryd.prog 70 = true := by kernel_rfl
theorem cok_71 : callOK Tryd.prog 71 = true := by kernel_rfl
theorem cok_72 : callOK Tryd.prog 72 = true := by kernel_rfl
theorem cok_73 : callOK Tryd.prog 73 = true := by kernel_rfl
theorem cok_74 : callOK Tryd.prog 74 = true := by kernel_rfl
theorem cok_75 : callOK Tryd.prog 75 = true := by kernel_rfl
theorem cok_76 : callOK Tryd.prog 76 = true := by kernel_rfl
theorem cok_77 : callOK Tryd.prog 77 = true := by kernel_rfl
theorem cok_78 : callOK Tryd.prog 78 = true := by kernel_rfl
theorem cok_79 : callOK Tryd.prog 79 = true := by kernel_rfl
theorem cok_80 : callOK Tryd.prog 80 = true := by kernel_rfl
theorem cok_81 : callOK Tryd.prog 81 = true := by kernel_rfl
theorem cok_82 : callOK Tryd.prog 82 = true := by kernel_rfl
theorem cok_83 : callOK Tryd.prog 83 = true := by kernel_rfl
theorem cok_84 : callOK Tryd.prog 84 = true := by kernel_rfl
theorem cok_85 : callOK Tryd.prog 85 = true := by kernel_rfl
theorem cok_86 : callOK Tryd.prog 86 = true := by kernel_rfl
theorem cok_87 : callOK Tryd.prog 87 = true := by kernel_rfl
theorem cok_88 : callOK Tryd.prog 88 = true := by kernel_rfl
theorem cok_89 : callOK Tryd.prog 89 = true := by kernel_rfl
theorem cok_90 : callOK Tryd.prog 90 = true := by kernel_rfl
theorem cok_91 : callOK Tryd.prog 91 = true := by kernel_rfl
theorem cok_92 : callOK Tryd.prog 92 = true := by kernel_rfl
theorem cok_93 : callOK Tryd.prog 93 = true := by kernel_rfl
theorem cok_94 : callOK Tryd.prog 94 = true := by kernel_rfl
theorem cok_95 : callOK Tryd.prog 95 = true := by kernel_rfl
theorem cok_96 : callOK Tryd.prog 96 = true := by kernel_rfl
theorem cok_97 : callOK Tryd.prog 97 = true := by kernel_rfl
theorem cok_98 : callOK Tryd.prog 98 = true := by kernel_rfl
theorem cok_99 : callOK Tryd.prog 99 = true := by kernel_rfl
theorem cok_100 : callOK Tryd.prog 100 = true := by kernel_rfl
theorem cok_101 : callOK Tryd.prog 101 = true := by kernel_rfl
theorem cok_102 : callOK Tryd.prog 102 = true := by kernel_rfl
theorem cok_103 : callOK Tryd.prog 103 = true := by kernel_rfl
theorem cok_104 : callOK Tryd.prog 104 = true := by kernel_rfl
theorem cok_105 : callOK Tryd.prog 105 = true := by kernel_rfl
theorem cok_106 : callOK Tryd.prog 106 = true := by kernel_rfl
theorem cok_107 : callOK Tryd.prog 107 = true := by kernel_rfl
theorem cok_108 : callOK Tryd.prog 108 = true := by kernel_rfl
theorem cok_109 : callOK Tryd.prog 109 = true := by kernel_rfl
theorem cok_110 : callOK Tryd.prog 110 = true := by kernel_rfl
theorem cok_111 : callOK Tryd.prog 111 = true := by kernel_rfl
theorem cok_112 : callOK Tryd.prog 112 = true := by kernel_rfl
theorem cok_113 : callOK Tryd.prog 113 = true := by kernel_rfl
theorem cok_114 : callOK Tryd.prog 114 = true := by kernel_rfl
theorem cok_115 : callOK Tryd.prog 115 = true := by kernel_rfl
theorem cok_116 : callOK Tryd.prog 116 = true := by kernel_rfl
theorem cok_117 : callOK Tryd.prog 117 = true := by kernel_rfl
theorem cok_118 : callOK Tryd.prog 118 = true := by kernel_rfl
theorem cok_119 : callOK Tryd.prog 119 = true := by kernel_rfl
theorem cok_120 : callOK Tryd.prog 120 = true := by kernel_rfl
theorem cok_121 : callOK Tryd.prog 121 = true := by kernel_rfl
theorem cok_122 : callOK Tryd.prog 122 = true := by kernel_rfl
theorem cok_123 : callOK Tryd.prog 123 = true := by kernel_rfl
theorem cok_124 : callOK Tryd.prog 124 = true := by kernel_rfl
theorem cok_125 : callOK Tryd.prog 125 = true := by kernel_rfl
theorem cok_126 : callOK Tryd.prog 126 = true := by kernel_rfl
theorem cok_127 : callOK Tryd.prog 127 = true := by kernel_rfl
theorem cok_128 : callOK Tryd.prog 128 = true := by kernel_rfl
theorem cok_129 : callOK Tryd.prog 129 = true := by kernel_rfl
theorem cok_130 : callOK Tryd.prog 130 = true := by kernel_rfl
theorem cok_131 : callOK Tryd.prog 131 = true := by kernel_rfl
theorem cok_132 : callOK Tryd.prog 132 = true := by kernel_rfl
theorem cok_133 : callOK Tryd.prog 133 = true := by kernel_rfl
theorem cok_134 : callOK Tryd.prog 134 = true := by kernel_rfl
theorem cok_135 : callOK Tryd.prog 135 = true := by kernel_rfl
theorem cok_136 : callOK Tryd.prog 136 = true := by kernel_rfl
theorem cok_137 : callOK Tryd.prog 137 = true := by kernel_rfl
theorem cok_138 : callOK Tryd.prog 138 = true := by kernel_rfl
theorem cok_139 : callOK Tryd.prog 139 = true := by kernel_rfl
theorem cok_140 : callOK Tryd.prog 140 = true := by kernel_rfl
theorem cok_141 : callOK Tryd.prog 141 = true := by kernel_rfl
theorem cok_142 : callOK Tryd.prog 142 = true := by kernel_rfl
theorem cok_143 : callOK Tryd.prog 143 = true := by kernel_rfl
theorem cok_144 : callOK Tryd.prog 144 = true := by kernel_rfl
theorem cok_145 : callOK Tryd.prog 145 = true := by kernel_rfl
theorem cok_146 : callOK Tryd.prog 146 = true := by kernel_rfl
theorem cok_147 : callOK Tryd.prog 147 = true := by kernel_rfl
theorem cok_148 : callOK Tryd.prog 148 = true := by kernel_rfl
theorem cok_149 : callOK Tryd.prog 149 = true := by kernel_rfl
theorem cok_150 : callOK Tryd.prog 150 = true := by kernel_rfl
theorem cok_151 : callOK Tryd.prog 151 = true := by kernel_rfl
theorem cok_152 : callOK Tryd.prog 152 = true := by kernel_rfl
theorem cok_153 : callOK Tryd.prog 153 = true := by kernel_rfl
theorem cok_154 : callOK Tryd.prog 154 = true := by kernel_rfl
theorem cok_155 : callOK Tryd.prog 155 = true := by kernel_rfl
theorem cok_156 : callOK Tryd.prog 156 = true := by kernel_rfl
theorem cok_157 : callOK Tryd.prog 157 = true := by kernel_rfl
theorem cok_158 : callOK Tryd.prog 158 = true := by kernel_rfl
theorem cok_159 : callOK Tryd.prog 159 = true := by kernel_rfl
theorem cok_160 : callOK Tryd.prog 160 = true := by kernel_rfl
theorem cok_161 : callOK Tryd.prog 161 = true := by kernel_rfl
theorem cok_162 : callOK Tryd.prog 162 = true := by kernel_rfl
theorem cok_163 : callOK Tryd.prog 163 = true := by kernel_rfl
theorem cok_164 : callOK Tryd.prog 164 = true := by kernel_rfl
theorem cok_165 : callOK Tryd.prog 165 = true := by kernel_rfl
theorem cok_166 : callOK Tryd.prog 166 = true := by kernel_rfl
theorem cok_167 : callOK Tryd.prog 167 = true := by kernel_rfl
theorem cok_168 : callOK Tryd.prog 168 = true := by kernel_rfl
theorem cok_169 : callOK Tryd.prog 169 = true := by kernel_rfl
theorem cok_170 : callOK Tryd.prog 170 = true := by kernel_rfl
theorem cok_171 : callOK Tryd.prog 171 = true := by kernel_rfl
theorem cok_172 : callOK Tryd.prog 172 = true := by kernel_rfl
theorem cok_173 : callOK Tryd.prog 173 = true := by kernel_rfl
theorem cok_174 : callOK Tryd.prog 174 = true := by kernel_rfl
theorem cok_175 : callOK Tryd.prog 175 = true := by kernel_rfl
theorem cok_176 : callOK Tryd.prog 176 = true := by kernel_rfl
theorem cok_177 : callOK Tryd.prog 177 = true := by kernel_rfl
theorem cok_178 : callOK Tryd.prog 178 = true := by kernel_rfl
theorem cok_179 : callOK Tryd.prog 179 = true := by kernel_rfl
theorem cok_180 : callOK Tryd.prog 180 = true := by kernel_rfl
theorem cok_181 : callOK Tryd.prog 181 = true := by kernel_rfl
theorem cok_182 : callOK Tryd.prog 182 = true := by kernel_rfl
theorem cok_183 : callOK Tryd.prog 183 = true := by kernel_rfl
theorem cok_184 : callOK Tryd.prog 184 = true := by kernel_rfl
theorem cok_185 : callOK Tryd.prog 185 = true := by kernel_rfl
theorem cok_186 : callOK Tryd.prog 186 = true := by kernel_rfl
theorem cok_187 : callOK Tryd.prog 187 = true := by kernel_rfl
theorem cok_188 : callOK Tryd.prog 188 = true := by kernel_rfl
theorem cok_189 : callOK Tryd.prog 189 = true := by kernel_rfl
theorem cok_190 : callOK Tryd.prog 190 = true := by kernel_rfl
theorem cok_191 : callOK Tryd.prog 191 = true := by kernel_rfl
theorem cok_192 : callOK Tryd.prog 192 = true := by kernel_rfl
theorem cok_193 : callOK Tryd.prog 193 = true := by kernel_rfl
theorem cok_194 : callOK Tryd.prog 194 = true := by kernel_rfl
theorem cok_195 : callOK Tryd.prog 195 = true := by kernel_rfl
theorem cok_196 : callOK Tryd.prog 196 = true := by kernel_rfl
theorem cok_197 : callOK Tryd.prog 197 = true := by kernel_rfl
theorem cok_198 : callOK Tryd.prog 198 = true := by kernel_rfl
theorem cok_199 : callOK Tryd.prog 199 = true := by kernel_rfl
theorem cok_200 : callOK Tryd.prog 200 = true := by kernel_rfl
theorem cok_201 : callOK Tryd.prog 201 = true := by kernel_rfl
theorem cok_202 : callOK Tryd.prog 202 = true := by kernel_rfl
theorem cok_203 : callOK Tryd.prog 203 = true := by kernel_rfl
theorem cok_204 : callOK Tryd.prog 204 = true := by kernel_rfl
theorem cok_205 : callOK Tryd.prog 205 = true := by kernel_rfl
theorem cok_206 : callOK Tryd.prog 206 = true := by kernel_rfl
theorem cok_207 : callOK Tryd.prog 207 = true := by kernel_rfl
theorem cok_208 : callOK Tryd.prog 208 = true := by kernel_rfl
theorem cok_209 : callOK Tryd.prog 209 = true := by kernel_rfl
theorem cok_210 : callOK Tryd.prog 210 = true := by kernel_rfl
theorem cok_211 : callOK Tryd.prog 211 = true := by kernel_rfl
theorem cok_212 : callOK Tryd.prog 212 = true := by kernel_rfl
theorem cok_213 : callOK Tryd.prog 213 = true := by kernel_rfl
theorem cok_214 : callOK Tryd.prog 214 = true := by kernel_rfl
theorem cok_215 : callOK Tryd.prog 215 = true := by kernel_rfl
theorem cok_216 : callOK Tryd.prog 216 = true := by kernel_rfl
theorem cok_217 : callOK Tryd.prog 217 = true := by kernel_rfl
theorem cok_218 : callOK Tryd.prog 218 = true := by kernel_rfl
theorem cok_219 : callOK Tryd.prog 219 = true := by kernel_rfl
theorem cok_220 : callOK Tryd.prog 220 = true := by kernel_rfl
theorem cok_221 : callOK Tryd.prog 221 = true := by kernel_rfl
theorem cok_222 : callOK Tryd.prog 222 = true := by kernel_rfl
theorem cok_223 : callOK Tryd.prog 223 = true := by kernel_rfl
theorem cok_224 : callOK Tryd.prog 224 = true := by kernel_rfl
theorem cok_225 : callOK Tryd.prog 225 = true := by kernel_rfl
theorem cok_226 : callOK Tryd.prog 226 = true := by kernel_rfl
theorem cok_227 : callOK Tryd.prog 227 = true := by kernel_rfl
theorem cok_228 : callOK Tryd.prog 228 = true := by kernel_rfl
theorem cok_229 : callOK Tryd.prog 229 = true := by kernel_rfl
theorem cok_230 : callOK Tryd.prog 230 = true := by kernel_rfl
theorem cok_231 : callOK Tryd.prog 231 = true := by kernel_rfl
theorem cok_232 : callOK Tryd.prog 232 = true := by kernel_rfl
theorem cok_233 : callOK Tryd.prog 233 = true := by kernel_rfl
theorem cok_234 : callOK Tryd.prog 234 = true := by kernel_rfl
theorem cok_235 : callOK Tryd.prog 235 = true := by kernel_rfl
theorem cok_236 : callOK Tryd.prog 236 = true := by kernel_rfl
theorem cok_237 : callOK Tryd.prog 237 = true := by kernel_rfl
theorem cok_238 : callOK Tryd.prog 238 = true := by kernel_rfl
theorem cok_239 : callOK Tryd.prog 239 = true := by kernel_rfl
theorem cok_240 : callOK Tryd.prog 240 = true := by kernel_rfl
theorem cok_241 : callOK Tryd.prog 241 = true := by kernel_rfl
theorem cok_242 : callOK Tryd.prog 242 = true := by kernel_rfl
theorem cok_243 : callOK Tryd.prog 243 = true := by kernel_rfl
theorem cok_244 : callOK Tryd.prog 244 = true := by kernel_rfl
theorem cok_245 : callOK Tryd.prog 245 = true := by kernel_rfl
theorem cok_246 : callOK Tryd.prog 246 = true := by kernel_rfl
theorem cok_247 : callOK Tryd.prog 247 = true := by kernel_rfl
theorem cok_248 : callOK Tryd.prog 248 = true := by kernel_rfl
theorem cok_249 : callOK Tryd.prog 249 = true := by kernel_rfl
theorem cok_250 : callOK Tryd.prog 250 = true := by kernel_rfl
theorem cok_251 : callOK Tryd.prog 251 = true := by kernel_rfl
theorem cok_252 : callOK Tryd.prog 252 = true := by kernel_rfl
theorem cok_253 : callOK Tryd.prog 253 = true := by kernel_rfl
theorem cok_254 : callOK Tryd.prog 254 = true := by kernel_rfl
theorem cok_255 : callOK Tryd.prog 255 = true := by kernel_rfl
theorem cok_256 : callOK Tryd.prog 256 = true := by kernel_rfl
theorem cok_257 : callOK Tryd.prog 257 = true := by kernel_rfl
theorem cok_259 : callOK Tryd.prog 259 = true := by kernel_rfl
theorem cok_260 : callOK Tryd.prog 260 = true := by kernel_rfl
theorem cok_261 : callOK Tryd.prog 261 = true := by kernel_rfl
theorem cok_262 : callOK Tryd.prog 262 = true := by kernel_rfl
theorem cok_263 : callOK Tryd.prog 263 = true := by kernel_rfl
theorem cok_264 : callOK Tryd.prog 264 = true := by kernel_rfl
theorem cok_265 : callOK Tryd.prog 265 = true := by kernel_rfl
theorem cok_266 : callOK Tryd.prog 266 = true := by kernel_rfl
theorem cok_267 : callOK Tryd.prog 267 = true := by kernel_rfl
theorem cok_268 : callOK Tryd.prog 268 = true := by kernel_rfl
theorem cok_269 : callOK Tryd.prog 269 = true := by kernel_rfl
theorem cok_270 : callOK Tryd.prog 270 = true := by kernel_rfl
theorem cok_271 : callOK Tryd.prog 271 = true := by kernel_rfl
theorem cok_272 : callOK Tryd.prog 272 = true := by kernel_rfl
theorem cok_273 : callOK Tryd.prog 273 = true := by kernel_rfl
theorem cok_274 : callOK Tryd.prog 274 = true := by kernel_rfl
theorem cok_275 : callOK Tryd.prog 275 = true := by kernel_rfl
theorem cok_276 : callOK Tryd.prog 276 = true := by kernel_rfl
theorem cok_277 : callOK Tryd.prog 277 = true := by kernel_rfl
theorem cok_278 : callOK Tryd.prog 278 = true := by kernel_rfl
theorem cok_279 : callOK Tryd.prog 279 = true := by kernel_rfl
theorem cok_280 : callOK Tryd.prog 280 = true := by kernel_rfl
theorem cok_281 : callOK Tryd.prog 281 = true := by kernel_rfl
theorem cok_282 : callOK Tryd.prog 282 = true := by kernel_rfl
theorem cok_283 : callOK Tryd.prog 283 = true := by kernel_rfl
theorem cok_284 : callOK Tryd.prog 284 = true := by kernel_rfl
theorem cok_285 : callOK Tryd.prog 285 = true := by kernel_rfl
theorem cok_286 : callOK Tryd.prog 286 = true := by kernel_rfl
theorem cok_287 : callOK Tryd.prog 287 = true := by kernel_rfl
theorem cok_288 : callOK Tryd.prog 288 = true := by kernel_rfl
theorem cok_289 : callOK Tryd.prog 289 = true := by kernel_rfl
theorem cok_290 : callOK Tryd.prog 290 = true := by kernel_rfl
theorem cok_291 : callOK Tryd.prog 291 = true := by kernel_rfl
theorem cok_292 : callOK Tryd.prog 292 = true := by kernel_rfl
theorem cok_293 : callOK Tryd.prog 293 = true := by kernel_rfl
theorem cok_294 : callOK Tryd.prog 294 = true := by kernel_rfl
theorem cok_295 : callOK Tryd.prog 295 = true := by kernel_rfl
theorem cok_296 : callOK Tryd.prog 296 = true := by kernel_rfl
theorem cok_297 : callOK Tryd.prog 297 = true := by kernel_rfl
theorem cok_298 : callOK Tryd.prog 298 = true := by kernel_rfl
theorem cok_299 : callOK Tryd.prog 299 = true := by kernel_rfl
theorem cok_300 : callOK Tryd.prog 300 = true := by kernel_rfl
theorem cok_301 : callOK Tryd.prog 301 = true := by kernel_rfl
theorem cok_302 : callOK Tryd.prog 302 = true := by kernel_rfl
theorem cok_303 : callOK Tryd.prog 303 = true := by kernel_rfl
theorem cok_304 : callOK Tryd.prog 304 = true := by kernel_rfl
theorem cok_305 : callOK Tryd.prog 305 = true := by kernel_rfl
theorem cok_306 : callOK Tryd.prog 306 = true := by kernel_rfl
theorem cok_307 : callOK Tryd.prog 307 = true := by kernel_rfl
theorem cok_308 : callOK Tryd.prog 308 = true := by kernel_rfl
theorem cok_310 : callOK Tryd.prog 310 = true := by kernel_rfl
theorem cok_311 : callOK Tryd.prog 311 = true := by kernel_rfl
theorem cok_312 : callOK Tryd.prog 312 = true := by kernel_rfl
theorem cok_313 : callOK Tryd.prog 313 = true := by kernel_rfl
theorem cok_314 : callOK Tryd.prog 314 = true := by kernel_rfl
theorem cok_315 : callOK Tryd.prog 315 = true := by kernel_rfl
theorem cok_316 : callOK Tryd.prog 316 = true := by kernel_rfl
theorem cok_317 : callOK Tryd.prog 317 = true := by kernel_rfl
theorem cok_318 : callOK Tryd.prog 318 = true := by kernel_rfl
theorem cok_319 : callOK Tryd.prog 319 = true := by kernel_rfl
theorem cok_320 : callOK Tryd.prog 320 = true := by kernel_rfl
theorem cok_321 : callOK Tryd.prog 321 = true := by kernel_rfl
theorem cok_322 : callOK Tryd.prog 322 = true := by kernel_rfl
theorem cok_323 : callOK Tryd.prog 323 = true := by kernel_rfl
theorem cok_324 : callOK Tryd.prog 324 = true := by kernel_rfl
theorem cok_325 : callOK Tryd.prog 325 = true := by kernel_rfl
theorem cok_326 : callOK Tryd.prog 326 = true := by kernel_rfl
theorem cok_327 : callOK Tryd.prog 327 = true := by kernel_rfl
theorem cok_328 : callOK Tryd.prog 328 = true := by kernel_rfl
theorem cok_329 : callOK Tryd.prog 329 = true := by kernel_rfl
theorem cok_330 : callOK Tryd.prog 330 = true := by kernel_rfl
theorem cok_331 : callOK Tryd.prog 331 = true := by kernel_rfl
theorem cok_332 : callOK Tryd.prog 332 = true := by kernel_rfl
theorem cok_333 : callOK Tryd.prog 333 = true := by kernel_rfl
theorem cok_334 : callOK Tryd.prog 334 = true := by kernel_rfl
theorem cok_335 : callOK Tryd.prog 335 = true := by kernel_rfl
theorem cok_336 : callOK Tryd.prog 336 = true := by kernel_rfl
theorem cok_338 : callOK Tryd.prog 338 = true := by kernel_rfl
theorem cok_339 : callOK Tryd.prog 339 = true := by kernel_rfl
theorem cok_340 : callOK Tryd.prog 340 = true := by kernel_rfl
theorem cok_341 : callOK Tryd.prog 341 = true := by kernel_rfl
theorem cok_342 : callOK Tryd.prog 342 = true := by kernel_rfl
theorem cok_343 : callOK Tryd.prog 343 = true := by kernel_rfl
theorem cok_344 : callOK Tryd.prog 344 = true := by kernel_rfl
theorem cok_345 : callOK Tryd.prog 345 = true := by kernel_rfl
theorem cok_346 : callOK Tryd.prog 346 = true := by kernel_rfl
theorem cok_347 : callOK Tryd.prog 347 = true := by kernel_rfl
theorem cok_348 : callOK Tryd.prog 348 = true := by kernel_rfl
theorem cok_349 : callOK Tryd.prog 349 = true := by kernel_rfl
theorem cok_350 : callOK Tryd.prog 350 = true := by kernel_rfl
theorem cok_351 : callOK Tryd.prog 351 = true := by kernel_rfl
theorem cok_352 : callOK Tryd.prog 352 = true := by kernel_rfl
theorem cok_381 : callOK Tryd.prog 381 = true := by kernel_rfl
end Go.Proofs.YthcmelnpcaijaaaDoor
