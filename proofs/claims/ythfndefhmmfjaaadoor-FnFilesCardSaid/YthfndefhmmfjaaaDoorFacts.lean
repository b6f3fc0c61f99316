/-
  Closed facts on the types and functions of the translation, each by the kernel. No condition.
-/
import Derived.Test.YthfndefhmmfjaaaDoorProg
import Derived.Test.YthfndefhmmfjaaaDoorWf
import Derived.KernelRfl
namespace Go.Proofs.YthfndefhmmfjaaaDoor
open Go.VS
theorem mixed_orders : Tryd.prog.follows .mixedOrders = true := by kernel_rfl
theorem tyk_2 : tyk Tryd.prog 2 = some (false, 1) := by kernel_rfl
theorem zk_2 : zeroK Tryd.prog 2 = some (1, .int .i64 0) := by kernel_rfl
theorem und_2 : Tryd.prog.underlying 2 = some (.int .i64) := by kernel_rfl
theorem tyk_3 : tyk Tryd.prog 3 = some (false, 1) := by kernel_rfl
theorem zk_3 : zeroK Tryd.prog 3 = some (1, .int .i64 0) := by kernel_rfl
theorem und_3 : Tryd.prog.underlying 3 = some (.int .i64) := by kernel_rfl
theorem tyk_4 : tyk Tryd.prog 4 = some (false, 1) := by kernel_rfl
theorem zk_4 : zeroK Tryd.prog 4 = some (1, .bool false) := by kernel_rfl
theorem und_4 : Tryd.prog.underlying 4 = some .bool := by kernel_rfl
theorem tyk_5 : tyk Tryd.prog 5 = some (false, 1) := by kernel_rfl
theorem zk_5 : zeroK Tryd.prog 5 = some (1, .int .u8 0) := by kernel_rfl
theorem und_5 : Tryd.prog.underlying 5 = some (.int .u8) := by kernel_rfl
theorem tyk_9 : tyk Tryd.prog 9 = some (false, 1) := by kernel_rfl
theorem zk_9 : zeroK Tryd.prog 9 = some (1, .str []) := by kernel_rfl
theorem istr_9 : isStr Tryd.prog 9 = true := by kernel_rfl
theorem tyk_12 : tyk Tryd.prog 12 = some (false, 1) := by kernel_rfl
theorem zk_12 : zeroK Tryd.prog 12 = some (1, .int .u64 0) := by kernel_rfl
theorem und_12 : Tryd.prog.underlying 12 = some (.int .u64) := by kernel_rfl
theorem tyk_13 : tyk Tryd.prog 13 = some (true, 2) := by kernel_rfl
theorem zk_13 : zeroK Tryd.prog 13 = some (2, .agg [.str [], .int .u64 0]) := by kernel_rfl
theorem fo_13_0 : fieldOff Tryd.prog 13 0 = some 0 := by kernel_rfl
theorem fo_13_1 : fieldOff Tryd.prog 13 1 = some 1 := by kernel_rfl
theorem tyk_21 : tyk Tryd.prog 21 = some (false, 1) := by kernel_rfl
theorem zk_21 : zeroK Tryd.prog 21 = some (1, .int .i32 0) := by kernel_rfl
theorem und_21 : Tryd.prog.underlying 21 = some (.int .i32) := by kernel_rfl
theorem tyk_22 : tyk Tryd.prog 22 = some (false, 1) := by kernel_rfl
theorem zk_22 : zeroK Tryd.prog 22 = some (1, .nils) := by kernel_rfl
theorem esz_22 : elemSz Tryd.prog 22 = some (5, 1) := by kernel_rfl
theorem eby_22 : elemBy Tryd.prog 22 = true := by kernel_rfl
theorem isl_22 : isSl Tryd.prog 22 = true := by kernel_rfl
theorem usl_22 : Tryd.prog.underlying 22 = some (.slice 5) := by kernel_rfl
theorem tyk_24 : tyk Tryd.prog 24 = some (false, 1) := by kernel_rfl
theorem zk_24 : zeroK Tryd.prog 24 = some (1, .nils) := by kernel_rfl
theorem esz_24 : elemSz Tryd.prog 24 = some (43, 3) := by kernel_rfl
theorem eby_24 : elemBy Tryd.prog 24 = true := by kernel_rfl
theorem isl_24 : isSl Tryd.prog 24 = true := by kernel_rfl
theorem usl_24 : Tryd.prog.underlying 24 = some (.slice 43) := by kernel_rfl
theorem tyk_35 : tyk Tryd.prog 35 = some (false, 1) := by kernel_rfl
theorem zk_35 : zeroK Tryd.prog 35 = some (1, .nils) := by kernel_rfl
theorem esz_35 : elemSz Tryd.prog 35 = some (3, 1) := by kernel_rfl
theorem eby_35 : elemBy Tryd.prog 35 = true := by kernel_rfl
theorem isl_35 : isSl Tryd.prog 35 = true := by kernel_rfl
theorem usl_35 : Tryd.prog.underlying 35 = some (.slice 3) := by kernel_rfl
theorem tyk_42 : tyk Tryd.prog 42 = some (true, 3) := by kernel_rfl
theorem zk_42 : zeroK Tryd.prog 42 = some (3, .agg [.int .i64 0, .int .i64 0, .str []]) := by kernel_rfl
theorem fo_42_0 : fieldOff Tryd.prog 42 0 = some 0 := by kernel_rfl
theorem fo_42_1 : fieldOff Tryd.prog 42 1 = some 1 := by kernel_rfl
theorem fo_42_2 : fieldOff Tryd.prog 42 2 = some 2 := by kernel_rfl
theorem tyk_43 : tyk Tryd.prog 43 = some (true, 3) := by kernel_rfl
theorem zk_43 : zeroK Tryd.prog 43 = some (3, .agg [.int .i64 0, .int .i64 0, .str []]) := by kernel_rfl
theorem fo_43_0 : fieldOff Tryd.prog 43 0 = some 0 := by kernel_rfl
theorem fo_43_1 : fieldOff Tryd.prog 43 1 = some 1 := by kernel_rfl
theorem fo_43_2 : fieldOff Tryd.prog 43 2 = some 2 := by kernel_rfl
theorem fe_43 : flatStruct Tryd.prog 43 = some [0, 0, 2] := by kernel_rfl
theorem pl_43 : placesK Tryd.prog 43 = some [(0, 1), (1, 1), (2, 1)] := by kernel_rfl
theorem tyk_57 : tyk Tryd.prog 57 = some (false, 1) := by kernel_rfl
theorem zk_57 : zeroK Tryd.prog 57 = some (1, .nils) := by kernel_rfl
theorem esz_57 : elemSz Tryd.prog 57 = some (110, 4) := by kernel_rfl
theorem eby_57 : elemBy Tryd.prog 57 = true := by kernel_rfl
theorem isl_57 : isSl Tryd.prog 57 = true := by kernel_rfl
theorem usl_57 : Tryd.prog.underlying 57 = some (.slice 110) := by kernel_rfl
theorem tyk_63 : tyk Tryd.prog 63 = some (false, 1) := by kernel_rfl
theorem zk_63 : zeroK Tryd.prog 63 = some (1, .nils) := by kernel_rfl
theorem esz_63 : elemSz Tryd.prog 63 = some (72, 4) := by kernel_rfl
theorem eby_63 : elemBy Tryd.prog 63 = true := by kernel_rfl
theorem isl_63 : isSl Tryd.prog 63 = true := by kernel_rfl
theorem usl_63 : Tryd.prog.underlying 63 = some (.slice 72) := by kernel_rfl
theorem tyk_71 : tyk Tryd.prog 71 = some (true, 4) := by kernel_rfl
theorem zk_71 : zeroK Tryd.prog 71 = some (4, .agg [.int .i64 0, .int .i64 0, .int .i64 0, .int .i64 0]) := by kernel_rfl
theorem fo_71_0 : fieldOff Tryd.prog 71 0 = some 0 := by kernel_rfl
theorem fo_71_1 : fieldOff Tryd.prog 71 1 = some 1 := by kernel_rfl
theorem fo_71_2 : fieldOff Tryd.prog 71 2 = some 2 := by kernel_rfl
theorem fo_71_3 : fieldOff Tryd.prog 71 3 = some 3 := by kernel_rfl
theorem tyk_72 : tyk Tryd.prog 72 = some (true, 4) := by kernel_rfl
theorem zk_72 : zeroK Tryd.prog 72 = some (4, .agg [.int .i64 0, .int .i64 0, .int .i64 0, .int .i64 0]) := by kernel_rfl
theorem fo_72_0 : fieldOff Tryd.prog 72 0 = some 0 := by kernel_rfl
theorem fo_72_1 : fieldOff Tryd.prog 72 1 = some 1 := by kernel_rfl
theorem fo_72_2 : fieldOff Tryd.prog 72 2 = some 2 := by kernel_rfl
theorem fo_72_3 : fieldOff Tryd.prog 72 3 = some 3 := by kernel_rfl
theorem fe_72 : flatStruct Tryd.prog 72 = some [0, 0, 0, 0] := by kernel_rfl
theorem pl_72 : placesK Tryd.prog 72 = some [(0, 1), (1, 1), (2, 1), (3, 1)] := by kernel_rfl
theorem tyk_78 : tyk Tryd.prog 78 = some (false, 1) := by kernel_rfl
theorem zk_78 : zeroK Tryd.prog 78 = some (1, .nils) := by kernel_rfl
theorem esz_78 : elemSz Tryd.prog 78 = some (93, 7) := by kernel_rfl
theorem eby_78 : elemBy Tryd.prog 78 = true := by kernel_rfl
theorem isl_78 : isSl Tryd.prog 78 = true := by kernel_rfl
theorem usl_78 : Tryd.prog.underlying 78 = some (.slice 93) := by kernel_rfl
theorem tyk_92 : tyk Tryd.prog 92 = some (true, 7) := by kernel_rfl
theorem zk_92 : zeroK Tryd.prog 92 = some (7, .agg [.int .i64 0, .int .i64 0, .str [], .int .i64 0, .int .i64 0, .int .i64 0, .int .i64 0]) := by kernel_rfl
theorem fo_92_0 : fieldOff Tryd.prog 92 0 = some 0 := by kernel_rfl
theorem fo_92_1 : fieldOff Tryd.prog 92 1 = some 1 := by kernel_rfl
theorem fo_92_2 : fieldOff Tryd.prog 92 2 = some 2 := by kernel_rfl
theorem fo_92_3 : fieldOff Tryd.prog 92 3 = some 3 := by kernel_rfl
theorem fo_92_4 : fieldOff Tryd.prog 92 4 = some 4 := by kernel_rfl
theorem fo_92_5 : fieldOff Tryd.prog 92 5 = some 5 := by kernel_rfl
theorem fo_92_6 : fieldOff Tryd.prog 92 6 = some 6 := by kernel_rfl
theorem tyk_93 : tyk Tryd.prog 93 = some (true, 7) := by kernel_rfl
theorem zk_93 : zeroK Tryd.prog 93 = some (7, .agg [.int .i64 0, .int .i64 0, .str [], .int .i64 0, .int .i64 0, .int .i64 0, .int .i64 0]) := by kernel_rfl
theorem fo_93_0 : fieldOff Tryd.prog 93 0 = some 0 := by kernel_rfl
theorem fo_93_1 : fieldOff Tryd.prog 93 1 = some 1 := by kernel_rfl
theorem fo_93_2 : fieldOff Tryd.prog 93 2 = some 2 := by kernel_rfl
theorem fo_93_3 : fieldOff Tryd.prog 93 3 = some 3 := by kernel_rfl
theorem fo_93_4 : fieldOff Tryd.prog 93 4 = some 4 := by kernel_rfl
theorem fo_93_5 : fieldOff Tryd.prog 93 5 = some 5 := by kernel_rfl
theorem fo_93_6 : fieldOff Tryd.prog 93 6 = some 6 := by kernel_rfl
theorem fe_93 : flatStruct Tryd.prog 93 = some [0, 0, 2, 0, 0, 0, 0] := by kernel_rfl
theorem pl_93 : placesK Tryd.prog 93 = some [(0, 1), (1, 1), (2, 1), (3, 1), (4, 1), (5, 1), (6, 1)] := by kernel_rfl
theorem tyk_99 : tyk Tryd.prog 99 = some (false, 1) := by kernel_rfl
theorem zk_99 : zeroK Tryd.prog 99 = some (1, .nils) := by kernel_rfl
theorem esz_99 : elemSz Tryd.prog 99 = some (35, 1) := by kernel_rfl
theorem eby_99 : elemBy Tryd.prog 99 = true := by kernel_rfl
theorem isl_99 : isSl Tryd.prog 99 = true := by kernel_rfl
theorem usl_99 : Tryd.prog.underlying 99 = some (.slice 35) := by kernel_rfl
theorem tyk_109 : tyk Tryd.prog 109 = some (true, 4) := by kernel_rfl
theorem zk_109 : zeroK Tryd.prog 109 = some (4, .agg [.int .i64 0, .str [], .int .i64 0, .nils]) := by kernel_rfl
theorem fo_109_0 : fieldOff Tryd.prog 109 0 = some 0 := by kernel_rfl
theorem fo_109_1 : fieldOff Tryd.prog 109 1 = some 1 := by kernel_rfl
theorem fo_109_2 : fieldOff Tryd.prog 109 2 = some 2 := by kernel_rfl
theorem fo_109_3 : fieldOff Tryd.prog 109 3 = some 3 := by kernel_rfl
theorem tyk_110 : tyk Tryd.prog 110 = some (true, 4) := by kernel_rfl
theorem zk_110 : zeroK Tryd.prog 110 = some (4, .agg [.int .i64 0, .str [], .int .i64 0, .nils]) := by kernel_rfl
theorem fo_110_0 : fieldOff Tryd.prog 110 0 = some 0 := by kernel_rfl
theorem fo_110_1 : fieldOff Tryd.prog 110 1 = some 1 := by kernel_rfl
theorem fo_110_2 : fieldOff Tryd.prog 110 2 = some 2 := by kernel_rfl
theorem fo_110_3 : fieldOff Tryd.prog 110 3 = some 3 := by kernel_rfl
theorem pl_110 : placesK Tryd.prog 110 = some [(0, 1), (1, 1), (2, 1), (3, 1)] := by kernel_rfl
theorem tyk_114 : tyk Tryd.prog 114 = some (false, 1) := by kernel_rfl
theorem zk_114 : zeroK Tryd.prog 114 = some (1, .nils) := by kernel_rfl
theorem esz_114 : elemSz Tryd.prog 114 = some (121, 3) := by kernel_rfl
theorem eby_114 : elemBy Tryd.prog 114 = true := by kernel_rfl
theorem isl_114 : isSl Tryd.prog 114 = true := by kernel_rfl
theorem usl_114 : Tryd.prog.underlying 114 = some (.slice 121) := by kernel_rfl
theorem tyk_120 : tyk Tryd.prog 120 = some (true, 3) := by kernel_rfl
theorem zk_120 : zeroK Tryd.prog 120 = some (3, .agg [.int .i64 0, .int .i64 0, .int .i64 0]) := by kernel_rfl
theorem fo_120_0 : fieldOff Tryd.prog 120 0 = some 0 := by kernel_rfl
theorem fo_120_1 : fieldOff Tryd.prog 120 1 = some 1 := by kernel_rfl
theorem fo_120_2 : fieldOff Tryd.prog 120 2 = some 2 := by kernel_rfl
theorem tyk_121 : tyk Tryd.prog 121 = some (true, 3) := by kernel_rfl
theorem zk_121 : zeroK Tryd.prog 121 = some (3, .agg [.int .i64 0, .int .i64 0, .int .i64 0]) := by kernel_rfl
theorem fo_121_0 : fieldOff Tryd.prog 121 0 = some 0 := by kernel_rfl
theorem fo_121_1 : fieldOff Tryd.prog 121 1 = some 1 := by kernel_rfl
theorem fo_121_2 : fieldOff Tryd.prog 121 2 = some 2 := by kernel_rfl
theorem fe_121 : flatStruct Tryd.prog 121 = some [0, 0, 0] := by kernel_rfl
theorem pl_121 : placesK Tryd.prog 121 = some [(0, 1), (1, 1), (2, 1)] := by kernel_rfl
theorem tyk_129 : tyk Tryd.prog 129 = some (false, 1) := by kernel_rfl
theorem zk_129 : zeroK Tryd.prog 129 = some (1, .nils) := by kernel_rfl
theorem esz_129 : elemSz Tryd.prog 129 = some (9, 1) := by kernel_rfl
theorem eby_129 : elemBy Tryd.prog 129 = true := by kernel_rfl
theorem isl_129 : isSl Tryd.prog 129 = true := by kernel_rfl
theorem usl_129 : Tryd.prog.underlying 129 = some (.slice 9) := by kernel_rfl
theorem tyk_133 : tyk Tryd.prog 133 = some (false, 1) := by kernel_rfl
theorem zk_133 : zeroK Tryd.prog 133 = some (1, .nils) := by kernel_rfl
theorem esz_133 : elemSz Tryd.prog 133 = some (218, 2) := by kernel_rfl
theorem eby_133 : elemBy Tryd.prog 133 = true := by kernel_rfl
theorem isl_133 : isSl Tryd.prog 133 = true := by kernel_rfl
theorem usl_133 : Tryd.prog.underlying 133 = some (.slice 218) := by kernel_rfl
theorem tyk_155 : tyk Tryd.prog 155 = some (false, 1) := by kernel_rfl
theorem zk_155 : zeroK Tryd.prog 155 = some (1, .nils) := by kernel_rfl
theorem esz_155 : elemSz Tryd.prog 155 = some (248, 2) := by kernel_rfl
theorem eby_155 : elemBy Tryd.prog 155 = true := by kernel_rfl
theorem isl_155 : isSl Tryd.prog 155 = true := by kernel_rfl
theorem usl_155 : Tryd.prog.underlying 155 = some (.slice 248) := by kernel_rfl
theorem tyk_156 : tyk Tryd.prog 156 = some (true, 4) := by kernel_rfl
theorem zk_156 : zeroK Tryd.prog 156 = some (4, .agg [.int .i64 0, .int .i64 0, .int .i64 0, .nils]) := by kernel_rfl
theorem fo_156_0 : fieldOff Tryd.prog 156 0 = some 0 := by kernel_rfl
theorem fo_156_1 : fieldOff Tryd.prog 156 1 = some 1 := by kernel_rfl
theorem fo_156_2 : fieldOff Tryd.prog 156 2 = some 2 := by kernel_rfl
theorem fo_156_3 : fieldOff Tryd.prog 156 3 = some 3 := by kernel_rfl
theorem tyk_157 : tyk Tryd.prog 157 = some (true, 4) := by kernel_rfl
theorem zk_157 : zeroK Tryd.prog 157 = some (4, .agg [.int .i64 0, .int .i64 0, .int .i64 0, .nils]) := by kernel_rfl
theorem fo_157_0 : fieldOff Tryd.prog 157 0 = some 0 := by kernel_rfl
theorem fo_157_1 : fieldOff Tryd.prog 157 1 = some 1 := by kernel_rfl
theorem fo_157_2 : fieldOff Tryd.prog 157 2 = some 2 := by kernel_rfl
theorem fo_157_3 : fieldOff Tryd.prog 157 3 = some 3 := by kernel_rfl
theorem pl_157 : placesK Tryd.prog 157 = some [(0, 1), (1, 1), (2, 1), (3, 1)] := by kernel_rfl
theorem tyk_161 : tyk Tryd.prog 161 = some (false, 1) := by kernel_rfl
theorem tyk_162 : tyk Tryd.prog 162 = some (false, 1) := by kernel_rfl
theorem zk_162 : zeroK Tryd.prog 162 = some (1, .int .u64 0) := by kernel_rfl
theorem und_162 : Tryd.prog.underlying 162 = some (.int .u64) := by kernel_rfl
theorem tyk_163 : tyk Tryd.prog 163 = some (true, 3) := by kernel_rfl
theorem zk_163 : zeroK Tryd.prog 163 = some (3, .agg [.nils, .int .i64 0, .int .u64 0]) := by kernel_rfl
theorem fo_163_0 : fieldOff Tryd.prog 163 0 = some 0 := by kernel_rfl
theorem fo_163_1 : fieldOff Tryd.prog 163 1 = some 1 := by kernel_rfl
theorem fo_163_2 : fieldOff Tryd.prog 163 2 = some 2 := by kernel_rfl
theorem tyk_164 : tyk Tryd.prog 164 = some (true, 3) := by kernel_rfl
theorem zk_164 : zeroK Tryd.prog 164 = some (3, .agg [.nils, .int .i64 0, .int .u64 0]) := by kernel_rfl
theorem fo_164_0 : fieldOff Tryd.prog 164 0 = some 0 := by kernel_rfl
theorem fo_164_1 : fieldOff Tryd.prog 164 1 = some 1 := by kernel_rfl
theorem fo_164_2 : fieldOff Tryd.prog 164 2 = some 2 := by kernel_rfl
theorem pl_164 : placesK Tryd.prog 164 = some [(0, 1), (1, 1), (2, 1)] := by kernel_rfl
theorem tyk_218 : tyk Tryd.prog 218 = some (true, 2) := by kernel_rfl
theorem zk_218 : zeroK Tryd.prog 218 = some (2, .agg [.int .i64 0, .int .i64 0]) := by kernel_rfl
theorem eg_218 : Tryd.prog.eqGuardType Tryd.prog.depth 218 = false := by kernel_rfl
theorem und_218 : Tryd.prog.underlying 218 = some (.array 2 3) := by kernel_rfl
theorem tyk_236 : tyk Tryd.prog 236 = some (false, 1) := by kernel_rfl
theorem zk_236 : zeroK Tryd.prog 236 = some (1, .int .u64 0) := by kernel_rfl
theorem und_236 : Tryd.prog.underlying 236 = some (.int .u64) := by kernel_rfl
theorem tyk_247 : tyk Tryd.prog 247 = some (true, 2) := by kernel_rfl
theorem zk_247 : zeroK Tryd.prog 247 = some (2, .agg [.int .i64 0, .int .i64 0]) := by kernel_rfl
theorem fo_247_0 : fieldOff Tryd.prog 247 0 = some 0 := by kernel_rfl
theorem fo_247_1 : fieldOff Tryd.prog 247 1 = some 1 := by kernel_rfl
theorem tyk_248 : tyk Tryd.prog 248 = some (true, 2) := by kernel_rfl
theorem zk_248 : zeroK Tryd.prog 248 = some (2, .agg [.int .i64 0, .int .i64 0]) := by kernel_rfl
theorem fo_248_0 : fieldOff Tryd.prog 248 0 = some 0 := by kernel_rfl
theorem fo_248_1 : fieldOff Tryd.prog 248 1 = some 1 := by kernel_rfl
theorem fe_248 : flatStruct Tryd.prog 248 = some [0, 0] := by kernel_rfl
theorem pl_248 : placesK Tryd.prog 248 = some [(0, 1), (1, 1)] := by kernel_rfl
theorem tyk_251 : tyk Tryd.prog 251 = some (true, 256) := by kernel_rfl
theorem zk_251 : zeroK Tryd.prog 251 = some (256, .agg [.bool false, .bool false, .bool false, .bool false, .bool false, .bool false, .bool false, .bool false, .bool false, .bool false, .bool false, .bool false, .bool false, .bool false, .bool false, .bool false, .bool false, .bool false, .bool false, .bool false, .bool false, .bool false, .bool false, .bool false, .bool false, .bool false, .bool false, .bool false, .bool false, .bool false, .bool false, .bool false, .bool false, .bool false, .bool false, .bool false, .bool false, .bool false, .bool false, .bool false, .bool false, .bool false, .bool false, .bool false, .bool false, .bool false, .bool false, .bool false, .bool false, .bool false, .bool false, .bool false, .bool false, .bool false, .bool false, .bool false, .bool false, .bool false, .bool false, .bool false, .bool false, .bool false, .bool false, .bool false, .bool false, .bool false, .bool false, .bool false, .bool false, .bool false, .bool false, .bool false, .bool false, .bool false, .bool false, .bool false, .bool false, .bool false, .bool false, .bool false, .bool false, .bool false, .bool false, .bool false, .bool false, .bool false, .bool false, .bool false, .bool false, .bool false, .bool false, .bool false, .bool false, .bool false, .bool false, .bool false, .bool false, .bool false, .bool false, .bool false, .bool false, .bool false, .bool false, .bool false, .bool false, .bool false, .bool false, .bool false, .bool false, .bool false, .bool false, .bool false, .bool false, .bool false, .bool false, .bool false, .bool false, .bool false, .bool false, .bool false, .bool false, .bool false, .bool false, .bool false, .bool false, .bool false, .bool false, .bool false, .bool false, .bool false, .bool false, .bool false, .bool false, .bool false, .bool false, .bool false, .bool false, .bool false, .bool false, .bool false, .bool false, .bool false, .bool false, .bool false, .bool false, .bool false, .bool false, .bool false, .bool false, .bool false, .bool false, .bool false, .bool false, .bool false, .bool false, .bool false, .bool false, .bool false, .bool false, .bool false, .bool false, .bool false, .bool false, .bool false, .bool false, .bool false, .bool false, .bool false, .bool false, .bool false, .bool false, .bool false, .bool false, .bool false, .bool false, .bool false, .bool false, .bool false, .bool false, .bool false, .bool false, .bool false, .bool false, .bool false, .bool false, .bool false, .bool false, .bool false, .bool false, .bool false, .bool false, .bool false, .bool false, .bool false, .bool false, .bool false, .bool false, .bool false, .bool false, .bool false, .bool false, .bool false, .bool false, .bool false, .bool false, .bool false, .bool false, .bool false, .bool false, .bool false, .bool false, .bool false, .bool false, .bool false, .bool false, .bool false, .bool false, .bool false, .bool false, .bool false, .bool false, .bool false, .bool false, .bool false, .bool false, .bool false, .bool false, .bool false, .bool false, .bool false, .bool false, .bool false, .bool false, .bool false, .bool false, .bool false, .bool false, .bool false, .bool false, .bool false, .bool false, .bool false, .bool false, .bool false, .bool false, .bool false, .bool false, .bool false, .bool false, .bool false, .bool false, .bool false, .bool false, .bool false, .bool false, .bool false]) := by kernel_rfl
theorem und_251 : Tryd.prog.underlying 251 = some (.array 256 4) := by kernel_rfl
theorem tyk_252 : tyk Tryd.prog 252 = some (true, 256) := by kernel_rfl
theorem zk_252 : zeroK Tryd.prog 252 = some (256, .agg [.bool false, .bool false, .bool false, .bool false, .bool false, .bool false, .bool false, .bool false, .bool false, .bool false, .bool false, .bool false, .bool false, .bool false, .bool false, .bool false, .bool false, .bool false, .bool false, .bool false, .bool false, .bool false, .bool false, .bool false, .bool false, .bool false, .bool false, .bool false, .bool false, .bool false, .bool false, .bool false, .bool false, .bool false, .bool false, .bool false, .bool false, .bool false, .bool false, .bool false, .bool false, .bool false, .bool false, .bool false, .bool false, .bool false, .bool false, .bool false, .bool false, .bool false, .bool false, .bool false, .bool false, .bool false, .bool false, .bool false, .bool false, .bool false, .bool false, .bool false, .bool false, .bool false, .bool false, .bool false, .bool false, .bool false, .bool false, .bool false, .bool false, .bool false, .bool false, .bool false, .bool false, .bool false, .bool false, .bool false, .bool false, .bool false, .bool false, .bool false, .bool false, .bool false, .bool false, .bool false, .bool false, .bool false, .bool false, .bool false, .bool false, .bool false, .bool false, .bool false, .bool false, .bool false, .bool false, .bool false, .bool false, .bool false, .bool false, .bool false, .bool false, .bool false, .bool false, .bool false, .bool false, .bool false, .bool false, .bool false, .bool false, .bool false, .bool false, .bool false, .bool false, .bool false, .bool false, .bool false, .bool false, .bool false, .bool false, .bool false, .bool false, .bool false, .bool false, .bool false, .bool false, .bool false, .bool false, .bool false, .bool false, .bool false, .bool false, .bool false, .bool false, .bool false, .bool false, .bool false, .bool false, .bool false, .bool false, .bool false, .bool false, .bool false, .bool false, .bool false, .bool false, .bool false, .bool false, .bool false, .bool false, .bool false, .bool false, .bool false, .bool false, .bool false, .bool false, .bool false, .bool false, .bool false, .bool false, .bool false, .bool false, .bool false, .bool false, .bool false, .bool false, .bool false, .bool false, .bool false, .bool false, .bool false, .bool false, .bool false, .bool false, .bool false, .bool false, .bool false, .bool false, .bool false, .bool false, .bool false, .bool false, .bool false, .bool false, .bool false, .bool false, .bool false, .bool false, .bool false, .bool false, .bool false, .bool false, .bool false, .bool false, .bool false, .bool false, .bool false, .bool false, .bool false, .bool false, .bool false, .bool false, .bool false, .bool false, .bool false, .bool false, .bool false, .bool false, .bool false, .bool false, .bool false, .bool false, .bool false, .bool false, .bool false, .bool false, .bool false, .bool false, .bool false, .bool false, .bool false, .bool false, .bool false, .bool false, .bool false, .bool false, .bool false, .bool false, .bool false, .bool false, .bool false, .bool false, .bool false, .bool false, .bool false, .bool false, .bool false, .bool false, .bool false, .bool false, .bool false, .bool false, .bool false, .bool false, .bool false, .bool false, .bool false, .bool false, .bool false, .bool false, .bool false, .bool false, .bool false, .bool false, .bool false, .bool false, .bool false]) := by kernel_rfl
theorem und_252 : Tryd.prog.underlying 252 = some (.array 256 4) := by kernel_rfl
theorem tyk_256 : tyk Tryd.prog 256 = some (false, 1) := by kernel_rfl
theorem tyk_257 : tyk Tryd.prog 257 = some (false, 1) := by kernel_rfl
theorem tyk_258 : tyk Tryd.prog 258 = some (true, 2) := by kernel_rfl
theorem fo_258_0 : fieldOff Tryd.prog 258 0 = some 0 := by kernel_rfl
theorem fo_258_1 : fieldOff Tryd.prog 258 1 = some 1 := by kernel_rfl
theorem tyk_259 : tyk Tryd.prog 259 = some (true, 2) := by kernel_rfl
theorem fo_259_0 : fieldOff Tryd.prog 259 0 = some 0 := by kernel_rfl
theorem fo_259_1 : fieldOff Tryd.prog 259 1 = some 1 := by kernel_rfl
theorem pl_259 : placesK Tryd.prog 259 = some [(0, 1), (1, 1)] := by kernel_rfl
theorem tyk_274 : tyk Tryd.prog 274 = some (false, 1) := by kernel_rfl
theorem tyk_277 : tyk Tryd.prog 277 = some (false, 1) := by kernel_rfl
theorem zk_277 : zeroK Tryd.prog 277 = some (1, .int .i64 0) := by kernel_rfl
theorem und_277 : Tryd.prog.underlying 277 = some (.int .i64) := by kernel_rfl
theorem tyk_283 : tyk Tryd.prog 283 = some (false, 1) := by kernel_rfl
theorem zk_283 : zeroK Tryd.prog 283 = some (1, .int .u32 0) := by kernel_rfl
theorem und_283 : Tryd.prog.underlying 283 = some (.int .u32) := by kernel_rfl
theorem tyk_290 : tyk Tryd.prog 290 = some (false, 1) := by kernel_rfl
theorem zk_290 : zeroK Tryd.prog 290 = some (1, .int .u64 0) := by kernel_rfl
theorem und_290 : Tryd.prog.underlying 290 = some (.int .u64) := by kernel_rfl
theorem tyk_294 : tyk Tryd.prog 294 = some (false, 1) := by kernel_rfl
theorem tyk_296 : tyk Tryd.prog 296 = some (true, 24) := by kernel_rfl
theorem zk_296 : zeroK Tryd.prog 296 = some (24, .agg [.int .u8 0, .int .u8 0, .int .u8 0, .int .u8 0, .int .u8 0, .int .u8 0, .int .u8 0, .int .u8 0, .int .u8 0, .int .u8 0, .int .u8 0, .int .u8 0, .int .u8 0, .int .u8 0, .int .u8 0, .int .u8 0, .int .u8 0, .int .u8 0, .int .u8 0, .int .u8 0, .int .u8 0, .int .u8 0, .int .u8 0, .int .u8 0]) := by kernel_rfl
theorem eg_296 : Tryd.prog.eqGuardType Tryd.prog.depth 296 = false := by kernel_rfl
theorem und_296 : Tryd.prog.underlying 296 = some (.array 24 5) := by kernel_rfl
theorem tyk_300 : tyk Tryd.prog 300 = some (true, 256) := by kernel_rfl
theorem zk_300 : zeroK Tryd.prog 300 = some (256, .agg [.int .u8 0, .int .u8 0, .int .u8 0, .int .u8 0, .int .u8 0, .int .u8 0, .int .u8 0, .int .u8 0, .int .u8 0, .int .u8 0, .int .u8 0, .int .u8 0, .int .u8 0, .int .u8 0, .int .u8 0, .int .u8 0, .int .u8 0, .int .u8 0, .int .u8 0, .int .u8 0, .int .u8 0, .int .u8 0, .int .u8 0, .int .u8 0, .int .u8 0, .int .u8 0, .int .u8 0, .int .u8 0, .int .u8 0, .int .u8 0, .int .u8 0, .int .u8 0, .int .u8 0, .int .u8 0, .int .u8 0, .int .u8 0, .int .u8 0, .int .u8 0, .int .u8 0, .int .u8 0, .int .u8 0, .int .u8 0, .int .u8 0, .int .u8 0, .int .u8 0, .int .u8 0, .int .u8 0, .int .u8 0, .int .u8 0, .int .u8 0, .int .u8 0, .int .u8 0, .int .u8 0, .int .u8 0, .int .u8 0, .int .u8 0, .int .u8 0, .int .u8 0, .int .u8 0, .int .u8 0, .int .u8 0, .int .u8 0, .int .u8 0, .int .u8 0, .int .u8 0, .int .u8 0, .int .u8 0, .int .u8 0, .int .u8 0, .int .u8 0, .int .u8 0, .int .u8 0, .int .u8 0, .int .u8 0, .int .u8 0, .int .u8 0, .int .u8 0, .int .u8 0, .int .u8 0, .int .u8 0, .int .u8 0, .int .u8 0, .int .u8 0, .int .u8 0, .int .u8 0, .int .u8 0, .int .u8 0, .int .u8 0, .int .u8 0, .int .u8 0, .int .u8 0, .int .u8 0, .int .u8 0, .int .u8 0, .int .u8 0, .int .u8 0, .int .u8 0, .int .u8 0, .int .u8 0, .int .u8 0, .int .u8 0, .int .u8 0, .int .u8 0, .int .u8 0, .int .u8 0, .int .u8 0, .int .u8 0, .int .u8 0, .int .u8 0, .int .u8 0, .int .u8 0, .int .u8 0, .int .u8 0, .int .u8 0, .int .u8 0, .int .u8 0, .int .u8 0, .int .u8 0, .int .u8 0, .int .u8 0, .int .u8 0, .int .u8 0, .int .u8 0, .int .u8 0, .int .u8 0, .int .u8 0, .int .u8 0, .int .u8 0, .int .u8 0, .int .u8 0, .int .u8 0, .int .u8 0, .int .u8 0, .int .u8 0, .int .u8 0, .int .u8 0, .int .u8 0, .int .u8 0, .int .u8 0, .int .u8 0, .int .u8 0, .int .u8 0, .int .u8 0, .int .u8 0, .int .u8 0, .int .u8 0, .int .u8 0, .int .u8 0, .int .u8 0, .int .u8 0, .int .u8 0, .int .u8 0, .int .u8 0, .int .u8 0, .int .u8 0, .int .u8 0, .int .u8 0, .int .u8 0, .int .u8 0, .int .u8 0, .int .u8 0, .int .u8 0, .int .u8 0, .int .u8 0, .int .u8 0, .int .u8 0, .int .u8 0, .int .u8 0, .int .u8 0, .int .u8 0, .int .u8 0, .int .u8 0, .int .u8 0, .int .u8 0, .int .u8 0, .int .u8 0, .int .u8 0, .int .u8 0, .int .u8 0, .int .u8 0, .int .u8 0, .int .u8 0, .int .u8 0, .int .u8 0, .int .u8 0, .int .u8 0, .int .u8 0, .int .u8 0, .int .u8 0, .int .u8 0, .int .u8 0, .int .u8 0, .int .u8 0, .int .u8 0, .int .u8 0, .int .u8 0, .int .u8 0, .int .u8 0, .int .u8 0, .int .u8 0, .int .u8 0, .int .u8 0, .int .u8 0, .int .u8 0, .int .u8 0, .int .u8 0, .int .u8 0, .int .u8 0, .int .u8 0, .int .u8 0, .int .u8 0, .int .u8 0, .int .u8 0, .int .u8 0, .int .u8 0, .int .u8 0, .int .u8 0, .int .u8 0, .int .u8 0, .int .u8 0, .int .u8 0, .int .u8 0, .int .u8 0, .int .u8 0, .int .u8 0, .int .u8 0, .int .u8 0, .int .u8 0, .int .u8 0, .int .u8 0, .int .u8 0, .int .u8 0, .int .u8 0, .int .u8 0, .int .u8 0, .int .u8 0, .int .u8 0, .int .u8 0, .int .u8 0, .int .u8 0, .int .u8 0, .int .u8 0, .int .u8 0, .int .u8 0, .int .u8 0, .int .u8 0, .int .u8 0, .int .u8 0, .int .u8 0, .int .u8 0, .int .u8 0, .int .u8 0, .int .u8 0, .int .u8 0, .int .u8 0, .int .u8 0]) := by kernel_rfl
theorem eg_300 : Tryd.prog.eqGuardType Tryd.prog.depth 300 = false := by kernel_rfl
theorem und_300 : Tryd.prog.underlying 300 = some (.array 256 5) := by kernel_rfl
theorem tyk_301 : tyk Tryd.prog 301 = some (true, 2) := by kernel_rfl
theorem zk_301 : zeroK Tryd.prog 301 = some (2, .agg [.int .u8 0, .int .u8 0]) := by kernel_rfl
theorem fo_301_0 : fieldOff Tryd.prog 301 0 = some 0 := by kernel_rfl
theorem fo_301_1 : fieldOff Tryd.prog 301 1 = some 1 := by kernel_rfl
theorem tyk_302 : tyk Tryd.prog 302 = some (true, 2) := by kernel_rfl
theorem zk_302 : zeroK Tryd.prog 302 = some (2, .agg [.int .u8 0, .int .u8 0]) := by kernel_rfl
theorem fo_302_0 : fieldOff Tryd.prog 302 0 = some 0 := by kernel_rfl
theorem fo_302_1 : fieldOff Tryd.prog 302 1 = some 1 := by kernel_rfl
theorem fe_302 : flatStruct Tryd.prog 302 = some [0, 0] := by kernel_rfl
theorem pl_302 : placesK Tryd.prog 302 = some [(0, 1), (1, 1)] := by kernel_rfl
theorem tyk_303 : tyk Tryd.prog 303 = some (true, 32) := by kernel_rfl
theorem zk_303 : zeroK Tryd.prog 303 = some (32, .agg [.int .u8 0, .int .u8 0, .int .u8 0, .int .u8 0, .int .u8 0, .int .u8 0, .int .u8 0, .int .u8 0, .int .u8 0, .int .u8 0, .int .u8 0, .int .u8 0, .int .u8 0, .int .u8 0, .int .u8 0, .int .u8 0, .int .u8 0, .int .u8 0, .int .u8 0, .int .u8 0, .int .u8 0, .int .u8 0, .int .u8 0, .int .u8 0, .int .u8 0, .int .u8 0, .int .u8 0, .int .u8 0, .int .u8 0, .int .u8 0, .int .u8 0, .int .u8 0]) := by kernel_rfl
theorem und_303 : Tryd.prog.underlying 303 = some (.array 16 302) := by kernel_rfl
theorem tyk_307 : tyk Tryd.prog 307 = some (false, 1) := by kernel_rfl
theorem tyk_310 : tyk Tryd.prog 310 = some (true, 20) := by kernel_rfl
theorem zk_310 : zeroK Tryd.prog 310 = some (20, .agg [.int .u64 0, .int .u64 0, .int .u64 0, .int .u64 0, .int .u64 0, .int .u64 0, .int .u64 0, .int .u64 0, .int .u64 0, .int .u64 0, .int .u64 0, .int .u64 0, .int .u64 0, .int .u64 0, .int .u64 0, .int .u64 0, .int .u64 0, .int .u64 0, .int .u64 0, .int .u64 0]) := by kernel_rfl
theorem eg_310 : Tryd.prog.eqGuardType Tryd.prog.depth 310 = false := by kernel_rfl
theorem und_310 : Tryd.prog.underlying 310 = some (.array 20 162) := by kernel_rfl
theorem tyk_311 : tyk Tryd.prog 311 = some (true, 65) := by kernel_rfl
theorem zk_311 : zeroK Tryd.prog 311 = some (65, .agg [.int .u8 0, .int .u8 0, .int .u8 0, .int .u8 0, .int .u8 0, .int .u8 0, .int .u8 0, .int .u8 0, .int .u8 0, .int .u8 0, .int .u8 0, .int .u8 0, .int .u8 0, .int .u8 0, .int .u8 0, .int .u8 0, .int .u8 0, .int .u8 0, .int .u8 0, .int .u8 0, .int .u8 0, .int .u8 0, .int .u8 0, .int .u8 0, .int .u8 0, .int .u8 0, .int .u8 0, .int .u8 0, .int .u8 0, .int .u8 0, .int .u8 0, .int .u8 0, .int .u8 0, .int .u8 0, .int .u8 0, .int .u8 0, .int .u8 0, .int .u8 0, .int .u8 0, .int .u8 0, .int .u8 0, .int .u8 0, .int .u8 0, .int .u8 0, .int .u8 0, .int .u8 0, .int .u8 0, .int .u8 0, .int .u8 0, .int .u8 0, .int .u8 0, .int .u8 0, .int .u8 0, .int .u8 0, .int .u8 0, .int .u8 0, .int .u8 0, .int .u8 0, .int .u8 0, .int .u8 0, .int .u8 0, .int .u8 0, .int .u8 0, .int .u8 0, .int .u8 0]) := by kernel_rfl
theorem eg_311 : Tryd.prog.eqGuardType Tryd.prog.depth 311 = false := by kernel_rfl
theorem und_311 : Tryd.prog.underlying 311 = some (.array 65 5) := by kernel_rfl
theorem tyk_312 : tyk Tryd.prog 312 = some (true, 32) := by kernel_rfl
theorem zk_312 : zeroK Tryd.prog 312 = some (32, .agg [.int .u8 0, .int .u8 0, .int .u8 0, .int .u8 0, .int .u8 0, .int .u8 0, .int .u8 0, .int .u8 0, .int .u8 0, .int .u8 0, .int .u8 0, .int .u8 0, .int .u8 0, .int .u8 0, .int .u8 0, .int .u8 0, .int .u8 0, .int .u8 0, .int .u8 0, .int .u8 0, .int .u8 0, .int .u8 0, .int .u8 0, .int .u8 0, .int .u8 0, .int .u8 0, .int .u8 0, .int .u8 0, .int .u8 0, .int .u8 0, .int .u8 0, .int .u8 0]) := by kernel_rfl
theorem eg_312 : Tryd.prog.eqGuardType Tryd.prog.depth 312 = false := by kernel_rfl
theorem und_312 : Tryd.prog.underlying 312 = some (.array 32 5) := by kernel_rfl
theorem tyk_313 : tyk Tryd.prog 313 = some (true, 64) := by kernel_rfl
theorem zk_313 : zeroK Tryd.prog 313 = some (64, .agg [.int .u8 0, .int .u8 0, .int .u8 0, .int .u8 0, .int .u8 0, .int .u8 0, .int .u8 0, .int .u8 0, .int .u8 0, .int .u8 0, .int .u8 0, .int .u8 0, .int .u8 0, .int .u8 0, .int .u8 0, .int .u8 0, .int .u8 0, .int .u8 0, .int .u8 0, .int .u8 0, .int .u8 0, .int .u8 0, .int .u8 0, .int .u8 0, .int .u8 0, .int .u8 0, .int .u8 0, .int .u8 0, .int .u8 0, .int .u8 0, .int .u8 0, .int .u8 0, .int .u8 0, .int .u8 0, .int .u8 0, .int .u8 0, .int .u8 0, .int .u8 0, .int .u8 0, .int .u8 0, .int .u8 0, .int .u8 0, .int .u8 0, .int .u8 0, .int .u8 0, .int .u8 0, .int .u8 0, .int .u8 0, .int .u8 0, .int .u8 0, .int .u8 0, .int .u8 0, .int .u8 0, .int .u8 0, .int .u8 0, .int .u8 0, .int .u8 0, .int .u8 0, .int .u8 0, .int .u8 0, .int .u8 0, .int .u8 0, .int .u8 0, .int .u8 0]) := by kernel_rfl
theorem eg_313 : Tryd.prog.eqGuardType Tryd.prog.depth 313 = false := by kernel_rfl
theorem und_313 : Tryd.prog.underlying 313 = some (.array 64 5) := by kernel_rfl
theorem cok_3 : callOK Tryd.prog 3 = true := by kernel_rfl
theorem cok_4 : callOK Tryd.prog 4 = true := by kernel_rfl
theorem cok_5 : callOK Tryd.prog 5 = true := by kernel_rfl
theorem cok_6 : callOK Tryd.prog 6 = true := by kernel_rfl
theorem cok_7 : callOK Tryd.prog 7 = true := by kernel_rfl
theorem cok_8 : callOK Tryd.prog 8 = true := by kernel_rfl
theorem cok_9 : callOK Tryd.prog 9 = true := by kernel_rfl
theorem cok_10 : callOK Tryd.prog 10 = true := by kernel_rfl
theorem cok_11 : callOK Tryd.prog 11 = true := by kernel_rfl
theorem cok_12 : callOK Tryd.prog 12 = true := by kernel_rfl
theorem cok_13 : callOK Tryd.prog 13 = true := by kernel_rfl
theorem cok_14 : callOK Tryd.prog 14 = true := by kernel_rfl
theorem cok_15 : callOK Tryd.prog 15 = true := by kernel_rfl
theorem cok_16 : callOK Tryd.prog 16 = true := by kernel_rfl
theorem cok_17 : callOK Tryd.prog 17 = true := by kernel_rfl
theorem cok_18 : callOK Tryd.prog 18 = true := by kernel_rfl
theorem cok_19 : callOK Tryd.prog 19 = true := by kernel_rfl
theorem cok_20 : callOK Tryd.prog 20 = true := by kernel_rfl
theorem cok_21 : callOK Tryd.prog 21 = true := by kernel_rfl
theorem cok_22 : callOK Tryd.prog 22 = true := by kernel_rfl
theorem cok_23 : callOK Tryd.prog 23 = true := by kernel_rfl
theorem cok_24 : callOK Tryd.prog 24 = true := by kernel_rfl
theorem cok_25 : callOK Tryd.prog 25 = true := by kernel_rfl
theorem cok_26 : callOK Tryd.prog 26 = true := by kernel_rfl
theorem cok_27 : callOK Tryd.prog 27 = true := by kernel_rfl
theorem cok_28 : callOK Tryd.prog 28 = true := by kernel_rfl
theorem cok_29 : callOK Tryd.prog 29 = true := by kernel_rfl
theorem cok_30 : callOK Tryd.prog 30 = true := by kernel_rfl
theorem cok_31 : callOK Tryd.prog 31 = true := by kernel_rfl
theorem cok_32 : callOK Tryd.prog 32 = true := by kernel_rfl
theorem cok_33 : callOK Tryd.prog 33 = true := by kernel_rfl
theorem cok_34 : callOK Tryd.prog 34 = true := by kernel_rfl
theorem cok_35 : callOK Tryd.prog 35 = true := by kernel_rfl
theorem cok_36 : callOK Tryd.prog 36 = true := by kernel_rfl
theorem cok_37 : callOK Tryd.prog 37 = true := by kernel_rfl
theorem cok_38 : callOK Tryd.prog 38 = true := by kernel_rfl
theorem cok_39 : callOK Tryd.prog 39 = true := by kernel_rfl
theorem cok_40 : callOK Tryd.prog 40 = true := by kernel_rfl
theorem cok_41 : callOK Tryd.prog 41 = true := by kernel_rfl
theorem cok_42 : callOK Tryd.prog 42 = true := by kernel_rfl
theorem cok_43 : callOK Tryd.prog 43 = true := by kernel_rfl
theorem cok_44 : callOK Tryd.prog 44 = true := by kernel_rfl
theorem cok_45 : callOK Tryd.prog 45 = true := by kernel_rfl
theorem cok_46 : callOK Tryd.prog 46 = true := by kernel_rfl
theorem cok_47 : callOK Tryd.prog 47 = true := by kernel_rfl
theorem cok_48 : callOK Tryd.prog 48 = true := by kernel_rfl
theorem cok_49 : callOK Tryd.prog 49 = true := by kernel_rfl
theorem cok_50 : callOK Tryd.prog 50 = true := by kernel_rfl
theorem cok_51 : callOK Tryd.prog 51 = true := by kernel_rfl
theorem cok_52 : callOK Tryd.prog 52 = true := by kernel_rfl
theorem cok_53 : callOK Tryd.prog 53 = true := by kernel_rfl
theorem cok_54 : callOK Tryd.prog 54 = true := by kernel_rfl
theorem cok_55 : callOK Tryd.prog 55 = true := by kernel_rfl
theorem cok_56 : callOK Tryd.prog 56 = true := by kernel_rfl
theorem cok_57 : callOK Tryd.prog 57 = true := by kernel_rfl
theorem cok_58 : callOK Tryd.prog 58 = true := by kernel_rfl
theorem cok_59 : callOK Tryd.prog 59 = true := by kernel_rfl
theorem cok_60 : callOK Tryd.prog 60 = true := by kernel_rfl
theorem cok_61 : callOK Tryd.prog 61 = true := by kernel_rfl
theorem cok_62 : callOK Tryd.prog 62 = true := by kernel_rfl
theorem cok_63 : callOK Tryd.prog 63 = true := by kernel_rfl
theorem cok_64 : callOK Tryd.prog 64 = true := by kernel_rfl
theorem cok_65 : callOK Tryd.prog 65 = true := by kernel_rfl
theorem cok_66 : callOK Tryd.prog 66 = true := by kernel_rfl
theorem cok_67 : callOK Tryd.prog 67 = true := by kernel_rfl
theorem cok_68 : callOK Tryd.prog 68 = true := by kernel_rfl
theorem cok_69 : callOK Tryd.prog 69 = true := by kernel_rfl
theorem cok_70 : callOK Tryd.prog 70 = true := by kernel_rfl
theorem cok_71 : callOK Tryd.prog 71 = true := by kernel_rfl
theorem cok_72 : callOK Tryd.prog 72 = true := by kernel_rfl
theorem cok_73 : callOK Tryd.prog 73 = true := by kernel_rfl
theorem cok_74 : callOK Tryd.prog 74 = true := by kernel_rfl
theorem cok_75 : callOK Tryd.prog 75 = true := by kernel_rfl
theorem cok_76 : callOK Tryd.prog 76 = true := by kernel_rfl
theorem cok_77 : callOK Tryd.prog 77 = true := by kernel_rfl
theorem cok_78 : callOK Tryd.prog 78 = true := by kernel_rfl
theorem cok_79 : callOK Tryd.prog 79 = true := by kernel_rfl
theorem cok_80 : callOK Tryd.prog 80 = true := by kernel_rfl
theorem cok_81 : callOK Tryd.prog 81 = true := by kernel_rfl
theorem cok_82 : callOK Tryd.prog 82 = true := by kernel_rfl
theorem cok_83 : callOK Tryd.prog 83 = true := by kernel_rfl
theorem cok_84 : callOK Tryd.prog 84 = true := by kernel_rfl
theorem cok_85 : callOK Tryd.prog 85 = true := by kernel_rfl
theorem cok_86 : callOK Tryd.prog 86 = true := by kernel_rfl
theorem cok_87 : callOK Tryd.prog 87 = true := by kernel_rfl
theorem cok_88 : callOK Tryd.prog 88 = true := by kernel_rfl
theorem cok_89 : callOK Tryd.prog 89 = true := by kernel_rfl
theorem cok_90 : callOK Tryd.prog 90 = true := by kernel_rfl
theorem cok_91 : callOK Tryd.prog 91 = true := by kernel_rfl
theorem cok_92 : callOK Tryd.prog 92 = true := by kernel_rfl
theorem cok_93 : callOK Tryd.prog 93 = true := by kernel_rfl
theorem cok_94 : callOK Tryd.prog 94 = true := by kernel_rfl
theorem cok_95 : callOK Tryd.prog 95 = true := by kernel_rfl
theorem cok_96 : callOK Tryd.prog 96 = true := by kernel_rfl
theorem cok_97 : callOK Tryd.prog 97 = true := by kernel_rfl
theorem cok_98 : callOK Tryd.prog 98 = true := by kernel_rfl
theorem cok_99 : callOK Tryd.prog 99 = true := by kernel_rfl
theorem cok_100 : callOK Tryd.prog 100 = true := by kernel_rfl
theorem cok_101 : callOK Tryd.prog 101 = true := by kernel_rfl
theorem cok_102 : callOK Tryd.prog 102 = true := by kernel_rfl
theorem cok_103 : callOK Tryd.prog 103 = true := by kernel_rfl
theorem cok_104 : callOK Tryd.prog 104 = true := by kernel_rfl
theorem cok_105 : callOK Tryd.prog 105 = true := by kernel_rfl
theorem cok_106 : callOK Tryd.prog 106 = true := by kernel_rfl
theorem cok_107 : callOK Tryd.prog 107 = true := by kernel_rfl
theorem cok_108 : callOK Tryd.prog 108 = true := by kernel_rfl
theorem cok_109 : callOK Tryd.prog 109 = true := by kernel_rfl
theorem cok_110 : callOK Tryd.prog 110 = true := by kernel_rfl
theorem cok_111 : callOK Tryd.prog 111 = true := by kernel_rfl
theorem cok_112 : callOK Tryd.prog 112 = true := by kernel_rfl
theorem cok_113 : callOK Tryd.prog 113 = true := by kernel_rfl
theorem cok_114 : callOK Tryd.prog 114 = true := by kernel_rfl
theorem cok_115 : callOK Tryd.prog 115 = true := by kernel_rfl
theorem cok_116 : callOK Tryd.prog 116 = true := by kernel_rfl
theorem cok_117 : callOK Tryd.prog 117 = true := by kernel_rfl
theorem cok_118 : callOK Tryd.prog 118 = true := by kernel_rfl
theorem cok_119 : callOK Tryd.prog 119 = true := by kernel_rfl
theorem cok_120 : callOK Tryd.prog 120 = true := by kernel_rfl
theorem cok_121 : callOK Tryd.prog 121 = true := by kernel_rfl
theorem cok_122 : callOK Tryd.prog 122 = true := by kernel_rfl
theorem cok_123 : callOK Tryd.prog 123 = true := by kernel_rfl
theorem cok_124 : callOK Tryd.prog 124 = true := by kernel_rfl
theorem cok_125 : callOK Tryd.prog 125 = true := by kernel_rfl
theorem cok_126 : callOK Tryd.prog 126 = true := by kernel_rfl
theorem cok_127 : callOK Tryd.prog 127 = true := by kernel_rfl
theorem cok_128 : callOK Tryd.prog 128 = true := by kernel_rfl
theorem cok_129 : callOK Tryd.prog 129 = true := by kernel_rfl
theorem cok_130 : callOK Tryd.prog 130 = true := by kernel_rfl
theorem cok_131 : callOK Tryd.prog 131 = true := by kernel_rfl
theorem cok_132 : callOK Tryd.prog 132 = true := by kernel_rfl
theorem cok_133 : callOK Tryd.prog 133 = true := by kernel_rfl
theorem cok_134 : callOK Tryd.prog 134 = true := by kernel_rfl
theorem cok_135 : callOK Tryd.prog 135 = true := by kernel_rfl
theorem cok_136 : callOK Tryd.prog 136 = true := by kernel_rfl
theorem cok_137 : callOK Tryd.prog 137 = true := by kernel_rfl
theorem cok_138 : callOK Tryd.prog 138 = true := by kernel_rfl
theorem cok_139 : callOK Tryd.prog 139 = true := by kernel_rfl
theorem cok_140 : callOK Tryd.prog 140 = true := by kernel_rfl
theorem cok_141 : callOK Tryd.prog 141 = true := by kernel_rfl
theorem cok_142 : callOK Tryd.prog 142 = true := by kernel_rfl
theorem cok_143 : callOK Tryd.prog 143 = true := by kernel_rfl
theorem cok_144 : callOK Tryd.prog 144 = true := by kernel_rfl
theorem cok_145 : callOK Tryd.prog 145 = true := by kernel_rfl
theorem cok_146 : callOK Tryd.prog 146 = true := by kernel_rfl
theorem cok_147 : callOK Tryd.prog 147 = true := by kernel_rfl
theorem cok_148 : callOK Tryd.prog 148 = true := by kernel_rfl
theorem cok_149 : callOK Tryd.prog 149 = true := by kernel_rfl
theorem cok_150 : callOK Tryd.prog 150 = true := by kernel_rfl
theorem cok_151 : callOK Tryd.prog 151 = true := by kernel_rfl
theorem cok_152 : callOK Tryd.prog 152 = true := by kernel_rfl
theorem cok_153 : callOK Tryd.prog 153 = true := by kernel_rfl
theorem cok_154 : callOK Tryd.prog 154 = true := by kernel_rfl
theorem cok_155 : callOK Tryd.prog 155 = true := by kernel_rfl
theorem cok_156 : callOK Tryd.prog 156 = true := by kernel_rfl
theorem cok_157 : callOK Tryd.prog 157 = true := by kernel_rfl
theorem cok_158 : callOK Tryd.prog 158 = true := by kernel_rfl
theorem cok_159 : callOK Tryd.prog 159 = true := by kernel_rfl
theorem cok_160 : callOK Tryd.prog 160 = true := by kernel_rfl
theorem cok_161 : callOK Tryd.prog 161 = true := by kernel_rfl
theorem cok_162 : callOK Tryd.prog 162 = true := by kernel_rfl
theorem cok_163 : callOK Tryd.prog 163 = true := by kernel_rfl
theorem cok_164 : callOK Tryd.prog 164 = true := by kernel_rfl
theorem cok_165 : callOK Tryd.prog 165 = true := by kernel_rfl
theorem cok_166 : callOK Tryd.prog 166 = true := by kernel_rfl
theorem cok_167 : callOK Tryd.prog 167 = true := by kernel_rfl
theorem cok_168 : callOK Tryd.prog 168 = true := by kernel_rfl
theorem cok_169 : callOK Tryd.prog 169 = true := by kernel_rfl
theorem cok_170 : callOK Tryd.prog 170 = true := by kernel_rfl
theorem cok_171 : callOK Tryd.prog 171 = true := by kernel_rfl
theorem cok_172 : callOK Tryd.prog 172 = true := by kernel_rfl
theorem cok_173 : callOK Tryd.prog 173 = true := by kernel_rfl
theorem cok_174 : callOK Tryd.prog 174 = true := by kernel_rfl
theorem cok_175 : callOK Tryd.prog 175 = true := by kernel_rfl
theorem cok_176 : callOK Tryd.prog 176 = true := by kernel_rfl
theorem cok_177 : callOK Tryd.prog 177 = true := by kernel_rfl
theorem cok_178 : callOK Tryd.prog 178 = true := by kernel_rfl
theorem cok_179 : callOK Tryd.prog 179 = true := by kernel_rfl
theorem cok_180 : callOK Tryd.prog 180 = true := by kernel_rfl
theorem cok_181 : callOK Tryd.prog 181 = true := by kernel_rfl
theorem cok_182 : callOK Tryd.prog 182 = true := by kernel_rfl
theorem cok_183 : callOK Tryd.prog 183 = true := by kernel_rfl
theorem cok_184 : callOK Tryd.prog 184 = true := by kernel_rfl
theorem cok_185 : callOK Tryd.prog 185 = true := by kernel_rfl
theorem cok_186 : callOK Tryd.prog 186 = true := by kernel_rfl
theorem cok_187 : callOK Tryd.prog 187 = true := by kernel_rfl
theorem cok_188 : callOK Tryd.prog 188 = true := by kernel_rfl
theorem cok_189 : callOK Tryd.prog 189 = true := by kernel_rfl
theorem cok_190 : callOK Tryd.prog 190 = true := by kernel_rfl
theorem cok_191 : callOK Tryd.prog 191 = true := by kernel_rfl
theorem cok_192 : callOK Tryd.prog 192 = true := by kernel_rfl
theorem cok_193 : callOK Tryd.prog 193 = true := by kernel_rfl
theorem cok_194 : callOK Tryd.prog 194 = true := by kernel_rfl
theorem cok_195 : callOK Tryd.prog 195 = true := by kernel_rfl
theorem cok_196 : callOK Tryd.prog 196 = true := by kernel_rfl
theorem cok_197 : callOK Tryd.prog 197 = true := by kernel_rfl
theorem cok_198 : callOK Tryd.prog 198 = true := by kernel_rfl
theorem cok_199 : callOK Tryd.prog 199 = true := by kernel_rfl
theorem cok_200 : callOK Tryd.prog 200 = true := by kernel_rfl
theorem cok_201 : callOK Tryd.prog 201 = true := by kernel_rfl
theorem cok_202 : callOK Tryd.prog 202 = true := by kernel_rfl
theorem cok_203 : callOK Tryd.prog 203 = true := by kernel_rfl
theorem cok_204 : callOK Tryd.prog 204 = true := by kernel_rfl
theorem cok_205 : callOK Tryd.prog 205 = true := by kernel_rfl
theorem cok_206 : callOK Tryd.prog 206 = true := by kernel_rfl
theorem cok_207 : callOK Tryd.prog 207 = true := by kernel_rfl
theorem cok_208 : callOK Tryd.prog 208 = true := by kernel_rfl
theorem cok_209 : callOK Tryd.prog 209 = true := by kernel_rfl
theorem cok_210 : callOK Tryd.prog 210 = true := by kernel_rfl
theorem cok_211 : callOK Tryd.prog 211 = true := by kernel_rfl
theorem cok_212 : callOK Tryd.prog 212 = true := by kernel_rfl
theorem cok_213 : callOK Tryd.prog 213 = true := by kernel_rfl
theorem cok_214 : callOK Tryd.prog 214 = true := by kernel_rfl
theorem cok_215 : callOK Tryd.prog 215 = true := by kernel_rfl
theorem cok_216 : callOK Tryd.prog 216 = true := by kernel_rfl
theorem cok_217 : callOK Tryd.prog 217 = true := by kernel_rfl
theorem cok_218 : callOK Tryd.prog 218 = true := by kernel_rfl
theorem cok_219 : callOK Tryd.prog 219 = true := by kernel_rfl
theorem cok_220 : callOK Tryd.prog 220 = true := by kernel_rfl
theorem cok_221 : callOK Tryd.prog 221 = true := by kernel_rfl
theorem cok_222 : callOK Tryd.prog 222 = true := by kernel_rfl
theorem cok_223 : callOK Tryd.prog 223 = true := by kernel_rfl
theorem cok_224 : callOK Tryd.prog 224 = true := by kernel_rfl
theorem cok_225 : callOK Tryd.prog 225 = true := by kernel_rfl
theorem cok_226 : callOK Tryd.prog 226 = true := by kernel_rfl
theorem cok_227 : callOK Tryd.prog 227 = true := by kernel_rfl
theorem cok_228 : callOK Tryd.prog 228 = true := by kernel_rfl
theorem cok_229 : callOK Tryd.prog 229 = true := by kernel_rfl
theorem cok_230 : callOK Tryd.prog 230 = true := by kernel_rfl
theorem cok_231 : callOK Tryd.prog 231 = true := by kernel_rfl
theorem cok_232 : callOK Tryd.prog 232 = true := by kernel_rfl
theorem cok_233 : callOK Tryd.prog 233 = true := by kernel_rfl
theorem cok_234 : callOK Tryd.prog 234 = true := by kernel_rfl
theorem cok_235 : callOK Tryd.prog 235 = true := by kernel_rfl
theorem cok_236 : callOK Tryd.prog 236 = true := by kernel_rfl
theorem cok_237 : callOK Tryd.prog 237 = true := by kernel_rfl
theorem cok_238 : callOK Tryd.prog 238 = true := by kernel_rfl
theorem cok_239 : callOK Tryd.prog 239 = true := by kernel_rfl
theorem cok_240 : callOK Tryd.prog 240 = true := by kernel_rfl
theorem cok_241 : callOK Tryd.prog 241 = true := by kernel_rfl
theorem cok_242 : callOK Tryd.prog 242 = true := by kernel_rfl
theorem cok_243 : callOK Tryd.prog 243 = true := by kernel_rfl
theorem cok_244 : callOK Tryd.prog 244 = true := by kernel_rfl
theorem cok_245 : callOK Tryd.prog 245 = true := by kernel_rfl
theorem cok_246 : callOK Tryd.prog 246 = true := by kernel_rfl
theorem cok_247 : callOK Tryd.prog 247 = true := by kernel_rfl
theorem cok_248 : callOK Tryd.prog 248 = true := by kernel_rfl
theorem cok_249 : callOK Tryd.prog 249 = true := by kernel_rfl
theorem cok_250 : callOK Tryd.prog 250 = true := by kernel_rfl
theorem cok_251 : callOK Tryd.prog 251 = true := by kernel_rfl
theorem cok_252 : callOK Tryd.prog 252 = true := by kernel_rfl
theorem cok_253 : callOK Tryd.prog 253 = true := by kernel_rfl
theorem cok_254 : callOK Tryd.prog 254 = true := by kernel_rfl
theorem cok_255 : callOK Tryd.prog 255 = true := by kernel_rfl
theorem cok_256 : callOK Tryd.prog 256 = true := by kernel_rfl
theorem cok_257 : callOK Tryd.prog 257 = true := by kernel_rfl
theorem cok_258 : callOK Tryd.prog 258 = true := by kernel_rfl
theorem cok_259 : callOK Tryd.prog 259 = true := by kernel_rfl
theorem cok_260 : callOK Tryd.prog 260 = true := by kernel_rfl
theorem cok_261 : callOK Tryd.prog 261 = true := by kernel_rfl
theorem cok_262 : callOK Tryd.prog 262 = true := by kernel_rfl
theorem cok_263 : callOK Tryd.prog 263 = true := by kernel_rfl
theorem cok_264 : callOK Tryd.prog 264 = true := by kernel_rfl
theorem cok_265 : callOK Tryd.prog 265 = true := by kernel_rfl
theorem cok_266 : callOK Tryd.prog 266 = true := by kernel_rfl
theorem cok_267 : callOK Tryd.prog 267 = true := by kernel_rfl
theorem cok_268 : callOK Tryd.prog 268 = true := by kernel_rfl
theorem cok_269 : callOK Tryd.prog 269 = true := by kernel_rfl
theorem cok_270 : callOK Tryd.prog 270 = true := by kernel_rfl
theorem cok_271 : callOK Tryd.prog 271 = true := by kernel_rfl
theorem cok_272 : callOK Tryd.prog 272 = true := by kernel_rfl
theorem cok_273 : callOK Tryd.prog 273 = true := by kernel_rfl
theorem cok_274 : callOK Tryd.prog 274 = true := by kernel_rfl
theorem cok_275 : callOK Tryd.prog 275 = true := by kernel_rfl
theorem cok_276 : callOK Tryd.prog 276 = true := by kernel_rfl
theorem cok_277 : callOK Tryd.prog 277 = true := by kernel_rfl
theorem cok_278 : callOK Tryd.prog 278 = true := by kernel_rfl
theorem cok_279 : callOK Tryd.prog 279 = true := by kernel_rfl
theorem cok_280 : callOK Tryd.prog 280 = true := by kernel_rfl
theorem cok_281 : callOK Tryd.prog 281 = true := by kernel_rfl
theorem cok_282 : callOK Tryd.prog 282 = true := by kernel_rfl
theorem cok_283 : callOK Tryd.prog 283 = true := by kernel_rfl
theorem cok_285 : callOK Tryd.prog 285 = true := by kernel_rfl
theorem cok_286 : callOK Tryd.prog 286 = true := by kernel_rfl
theorem cok_287 : callOK Tryd.prog 287 = true := by kernel_rfl
theorem cok_288 : callOK Tryd.prog 288 = true := by kernel_rfl
theorem cok_289 : callOK Tryd.prog 289 = true := by kernel_rfl
theorem cok_290 : callOK Tryd.prog 290 = true := by kernel_rfl
theorem cok_291 : callOK Tryd.prog 291 = true := by kernel_rfl
theorem cok_292 : callOK Tryd.prog 292 = true := by kernel_rfl
theorem cok_293 : callOK Tryd.prog 293 = true := by kernel_rfl
theorem cok_294 : callOK Tryd.prog 294 = true := by kernel_rfl
theorem cok_295 : callOK Tryd.prog 295 = true := by kernel_rfl
theorem cok_296 : callOK Tryd.prog 296 = true := by kernel_rfl
theorem cok_297 : callOK Tryd.prog 297 = true := by kernel_rfl
theorem cok_298 : callOK Tryd.prog 298 = true := by kernel_rfl
theorem cok_299 : callOK Tryd.prog 299 = true := by kernel_rfl
theorem cok_300 : callOK Tryd.prog 300 = true := by kernel_rfl
theorem cok_301 : callOK Tryd.prog 301 = true := by kernel_rfl
theorem cok_302 : callOK Tryd.prog 302 = true := by kernel_rfl
theorem cok_303 : callOK Tryd.prog 303 = true := by kernel_rfl
theorem cok_304 : callOK Tryd.prog 304 = true := by kernel_rfl
theorem cok_305 : callOK Tryd.prog 305 = true := by kernel_rfl
theorem cok_306 : callOK Tryd.prog 306 = true := by kernel_rfl
theorem cok_307 : callOK Tryd.prog 307 = true := by kernel_rfl
theorem cok_308 : callOK Tryd.prog 308 = true := by kernel_rfl
theorem cok_309 : callOK Tryd.prog 309 = true := by kernel_rfl
theorem cok_310 : callOK Tryd.prog 310 = true := by kernel_rfl
theorem cok_311 : callOK Tryd.prog 311 = true := by kernel_rfl
theorem cok_312 : callOK Tryd.prog 312 = true := by kernel_rfl
theorem cok_313 : callOK Tryd.prog 313 = true := by kernel_rfl
theorem cok_314 : callOK Tryd.prog 314 = true := by kernel_rfl
theorem cok_315 : callOK Tryd.prog 315 = true := by kernel_rfl
theorem cok_316 : callOK Tryd.prog 316 = true := by kernel_rfl
theorem cok_317 : callOK Tryd.prog 317 = true := by kernel_rfl
theorem cok_318 : callOK Tryd.prog 318 = true := by kernel_rfl
theorem cok_319 : callOK Tryd.prog 319 = true := by kernel_rfl
theorem cok_320 : callOK Tryd.prog 320 = true := by kernel_rfl
theorem cok_321 : callOK Tryd.prog 321 = true := by kernel_rfl
theorem cok_322 : callOK Tryd.prog 322 = true := by kernel_rfl
theorem cok_323 : callOK Tryd.prog 323 = true := by kernel_rfl
theorem cok_324 : callOK Tryd.prog 324 = true := by kernel_rfl
theorem cok_325 : callOK Tryd.prog 325 = true := by kernel_rfl
theorem cok_326 : callOK Tryd.prog 326 = true := by kernel_rfl
theorem cok_327 : callOK Tryd.prog 327 = true := by kernel_rfl
theorem cok_328 : callOK Tryd.prog 328 = true := by kernel_rfl
theorem cok_329 : callOK Tryd.prog 329 = true := by kernel_rfl
theorem cok_330 : callOK Tryd.prog 330 = true := by kernel_rfl
theorem cok_331 : callOK Tryd.prog 331 = true := by kernel_rfl
theorem cok_332 : callOK Tryd.prog 332 = true := by kernel_rfl
theorem cok_333 : callOK Tryd.prog 333 = true := by kernel_rfl
theorem cok_334 : callOK Tryd.prog 334 = true := by kernel_rfl
theorem cok_335 : callOK Tryd.prog 335 = true := by kernel_rfl
theorem cok_336 : callOK Tryd.prog 336 = true := by kernel_rfl
theorem cok_337 : callOK Tryd.prog 337 = true := by kernel_rfl
theorem cok_338 : callOK Tryd.prog 338 = true := by kernel_rfl
theorem cok_339 : callOK Tryd.prog 339 = true := by kernel_rfl
theorem cok_340 : callOK Tryd.prog 340 = true := by kernel_rfl
theorem cok_341 : callOK Tryd.prog 341 = true := by kernel_rfl
theorem cok_344 : callOK Tryd.prog 344 = true := by kernel_rfl
theorem cok_345 : callOK Tryd.prog 345 = true := by kernel_rfl
theorem cok_346 : callOK Tryd.prog 346 = true := by kernel_rfl
theorem cok_347 : callOK Tryd.prog 347 = true := by kernel_rfl
theorem cok_348 : callOK Tryd.prog 348 = true := by kernel_rfl
theorem cok_349 : callOK Tryd.prog 349 = true := by kernel_rfl
theorem cok_350 : callOK Tryd.prog 350 = true := by kernel_rfl
theorem cok_351 : callOK Tryd.prog 351 = true := by kernel_rfl
theorem cok_352 : callOK Tryd.prog 352 = true := by kernel_rfl
theorem cok_353 : callOK Tryd.prog 353 = true := by kernel_rfl
theorem cok_354 : callOK Tryd.prog 354 = true := by kernel_rfl
theorem cok_355 : callOK Tryd.prog 355 = true := by kernel_rfl
theorem cok_356 : callOK Tryd.prog 356 = true := by kernel_rfl
theorem cok_358 : callOK Tryd.prog 358 = true := by kernel_rfl
theorem cok_359 : callOK Tryd.prog 359 = true := by kernel_rfl
theorem cok_360 : callOK Tryd.prog 360 = true := by kernel_rfl
theorem cok_361 : callOK Tryd.prog 361 = true := by kernel_rfl
theorem cok_362 : callOK Tryd.prog 362 = true := by kernel_rfl
theorem cok_363 : callOK Tryd.prog 363 = true := by kernel_rfl
theorem cok_364 : callOK Tryd.prog 364 = true := by kernel_rfl
theorem cok_365 : callOK Tryd.prog 365 = true := by kernel_rfl
theorem cok_392 : callOK Tryd.prog 392 = true := by kernel_rfl
end Go.Proofs.YthfndefhmmfjaaaDoor
