/-
  Closed facts on the types and functions of the translation, each by the kernel. No condition.
-/
import Derived.Test.YtjfpdbhjoofllaaDoorProg
import Derived.Test.YtjfpdbhjoofllaaDoorWf
import Derived.KernelRfl
namespace Go.Proofs.YtjfpdbhjoofllaaDoor
open Go.VS
theorem mixed_orders : Tryd.prog.follows .mixedOrders = true := by kernel_rfl
theorem tyk_2 : tyk Tryd.prog 2 = some (false, 1) := by kernel_rfl
theorem zk_2 : zeroK Tryd.prog 2 = some (1, .int .i64 0) := by kernel_rfl
theorem und_2 : Tryd.prog.underlying 2 = some (.int .i64) := by kernel_rfl
theorem tyk_3 : tyk Tryd.prog 3 = some (false, 1) := by kernel_rfl
theorem zk_3 : zeroK Tryd.prog 3 = some (1, .int .i64 0) := by kernel_rfl
theorem und_3 : Tryd.prog.underlying 3 = some (.int .i64) := by kernel_rfl
theorem tyk_4 : tyk Tryd.prog 4 = some (false, 1) := by kernel_rfl
theorem zk_4 : zeroK Tryd.prog 4 = some (1, .bool false) := by kernel_rfl
theorem und_4 : Tryd.prog.underlying 4 = some .bool := by kernel_rfl
theorem tyk_5 : tyk Tryd.prog 5 = some (false, 1) := by kernel_rfl
theorem zk_5 : zeroK Tryd.prog 5 = some (1, .int .u8 0) := by kernel_rfl
theorem und_5 : Tryd.prog.underlying 5 = some (.int .u8) := by kernel_rfl
theorem tyk_9 : tyk Tryd.prog 9 = some (false, 1) := by kernel_rfl
theorem zk_9 : zeroK Tryd.prog 9 = some (1, .str []) := by kernel_rfl
theorem istr_9 : isStr Tryd.prog 9 = true := by kernel_rfl
theorem tyk_12 : tyk Tryd.prog 12 = some (false, 1) := by kernel_rfl
theorem zk_12 : zeroK Tryd.prog 12 = some (1, .int .u64 0) := by kernel_rfl
theorem und_12 : Tryd.prog.underlying 12 = some (.int .u64) := by kernel_rfl
theorem tyk_13 : tyk Tryd.prog 13 = some (true, 2) := by kernel_rfl
theorem zk_13 : zeroK Tryd.prog 13 = some (2, .agg [.str [], .int .u64 0]) := by kernel_rfl
theorem fo_13_0 : fieldOff Tryd.prog 13 0 = some 0 := by kernel_rfl
theorem fo_13_1 : fieldOff Tryd.prog 13 1 = some 1 := by kernel_rfl
theorem tyk_21 : tyk Tryd.prog 21 = some (false, 1) := by kernel_rfl
theorem zk_21 : zeroK Tryd.prog 21 = some (1, .int .i32 0) := by kernel_rfl
theorem und_21 : Tryd.prog.underlying 21 = some (.int .i32) := by kernel_rfl
theorem tyk_22 : tyk Tryd.prog 22 = some (false, 1) := by kernel_rfl
theorem zk_22 : zeroK Tryd.prog 22 = some (1, .nils) := by kernel_rfl
theorem esz_22 : elemSz Tryd.prog 22 = some (5, 1) := by kernel_rfl
theorem eby_22 : elemBy Tryd.prog 22 = true := by kernel_rfl
theorem isl_22 : isSl Tryd.prog 22 = true := by kernel_rfl
theorem usl_22 : Tryd.prog.underlying 22 = some (.slice 5) := by kernel_rfl
theorem tyk_24 : tyk Tryd.prog 24 = some (false, 1) := by kernel_rfl
theorem zk_24 : zeroK Tryd.prog 24 = some (1, .nils) := by kernel_rfl
theorem esz_24 : elemSz Tryd.prog 24 = some (36, 3) := by kernel_rfl
theorem eby_24 : elemBy Tryd.prog 24 = true := by kernel_rfl
theorem isl_24 : isSl Tryd.prog 24 = true := by kernel_rfl
theorem usl_24 : Tryd.prog.underlying 24 = some (.slice 36) := by kernel_rfl
theorem tyk_31 : tyk Tryd.prog 31 = some (false, 1) := by kernel_rfl
theorem zk_31 : zeroK Tryd.prog 31 = some (1, .nils) := by kernel_rfl
theorem esz_31 : elemSz Tryd.prog 31 = some (3, 1) := by kernel_rfl
theorem eby_31 : elemBy Tryd.prog 31 = true := by kernel_rfl
theorem isl_31 : isSl Tryd.prog 31 = true := by kernel_rfl
theorem usl_31 : Tryd.prog.underlying 31 = some (.slice 3) := by kernel_rfl
theorem tyk_35 : tyk Tryd.prog 35 = some (true, 3) := by kernel_rfl
theorem zk_35 : zeroK Tryd.prog 35 = some (3, .agg [.int .i64 0, .int .i64 0, .str []]) := by kernel_rfl
theorem fo_35_0 : fieldOff Tryd.prog 35 0 = some 0 := by kernel_rfl
theorem fo_35_1 : fieldOff Tryd.prog 35 1 = some 1 := by kernel_rfl
theorem fo_35_2 : fieldOff Tryd.prog 35 2 = some 2 := by kernel_rfl
theorem tyk_36 : tyk Tryd.prog 36 = some (true, 3) := by kernel_rfl
theorem zk_36 : zeroK Tryd.prog 36 = some (3, .agg [.int .i64 0, .int .i64 0, .str []]) := by kernel_rfl
theorem fo_36_0 : fieldOff Tryd.prog 36 0 = some 0 := by kernel_rfl
theorem fo_36_1 : fieldOff Tryd.prog 36 1 = some 1 := by kernel_rfl
theorem fo_36_2 : fieldOff Tryd.prog 36 2 = some 2 := by kernel_rfl
theorem fe_36 : flatStruct Tryd.prog 36 = some [0, 0, 2] := by kernel_rfl
theorem pl_36 : placesK Tryd.prog 36 = some [(0, 1), (1, 1), (2, 1)] := by kernel_rfl
theorem tyk_44 : tyk Tryd.prog 44 = some (false, 1) := by kernel_rfl
theorem zk_44 : zeroK Tryd.prog 44 = some (1, .nils) := by kernel_rfl
theorem esz_44 : elemSz Tryd.prog 44 = some (87, 4) := by kernel_rfl
theorem eby_44 : elemBy Tryd.prog 44 = true := by kernel_rfl
theorem isl_44 : isSl Tryd.prog 44 = true := by kernel_rfl
theorem usl_44 : Tryd.prog.underlying 44 = some (.slice 87) := by kernel_rfl
theorem tyk_50 : tyk Tryd.prog 50 = some (false, 1) := by kernel_rfl
theorem zk_50 : zeroK Tryd.prog 50 = some (1, .nils) := by kernel_rfl
theorem esz_50 : elemSz Tryd.prog 50 = some (59, 4) := by kernel_rfl
theorem eby_50 : elemBy Tryd.prog 50 = true := by kernel_rfl
theorem isl_50 : isSl Tryd.prog 50 = true := by kernel_rfl
theorem usl_50 : Tryd.prog.underlying 50 = some (.slice 59) := by kernel_rfl
theorem tyk_58 : tyk Tryd.prog 58 = some (true, 4) := by kernel_rfl
theorem zk_58 : zeroK Tryd.prog 58 = some (4, .agg [.int .i64 0, .int .i64 0, .int .i64 0, .int .i64 0]) := by kernel_rfl
theorem fo_58_0 : fieldOff Tryd.prog 58 0 = some 0 := by kernel_rfl
theorem fo_58_1 : fieldOff Tryd.prog 58 1 = some 1 := by kernel_rfl
theorem fo_58_2 : fieldOff Tryd.prog 58 2 = some 2 := by kernel_rfl
theorem fo_58_3 : fieldOff Tryd.prog 58 3 = some 3 := by kernel_rfl
theorem tyk_59 : tyk Tryd.prog 59 = some (true, 4) := by kernel_rfl
theorem zk_59 : zeroK Tryd.prog 59 = some (4, .agg [.int .i64 0, .int .i64 0, .int .i64 0, .int .i64 0]) := by kernel_rfl
theorem fo_59_0 : fieldOff Tryd.prog 59 0 = some 0 := by kernel_rfl
theorem fo_59_1 : fieldOff Tryd.prog 59 1 = some 1 := by kernel_rfl
theorem fo_59_2 : fieldOff Tryd.prog 59 2 = some 2 := by kernel_rfl
theorem fo_59_3 : fieldOff Tryd.prog 59 3 = some 3 := by kernel_rfl
theorem fe_59 : flatStruct Tryd.prog 59 = some [0, 0, 0, 0] := by kernel_rfl
theorem pl_59 : placesK Tryd.prog 59 = some [(0, 1), (1, 1), (2, 1), (3, 1)] := by kernel_rfl
theorem tyk_68 : tyk Tryd.prog 68 = some (false, 1) := by kernel_rfl
theorem tyk_69 : tyk Tryd.prog 69 = some (false, 1) := by kernel_rfl
theorem zk_69 : zeroK Tryd.prog 69 = some (1, .int .u64 0) := by kernel_rfl
theorem und_69 : Tryd.prog.underlying 69 = some (.int .u64) := by kernel_rfl
theorem tyk_70 : tyk Tryd.prog 70 = some (true, 3) := by kernel_rfl
theorem zk_70 : zeroK Tryd.prog 70 = some (3, .agg [.nils, .int .i64 0, .int .u64 0]) := by kernel_rfl
theorem fo_70_0 : fieldOff Tryd.prog 70 0 = some 0 := by kernel_rfl
theorem fo_70_1 : fieldOff Tryd.prog 70 1 = some 1 := by kernel_rfl
theorem fo_70_2 : fieldOff Tryd.prog 70 2 = some 2 := by kernel_rfl
theorem tyk_71 : tyk Tryd.prog 71 = some (true, 3) := by kernel_rfl
theorem zk_71 : zeroK Tryd.prog 71 = some (3, .agg [.nils, .int .i64 0, .int .u64 0]) := by kernel_rfl
theorem fo_71_0 : fieldOff Tryd.prog 71 0 = some 0 := by kernel_rfl
theorem fo_71_1 : fieldOff Tryd.prog 71 1 = some 1 := by kernel_rfl
theorem fo_71_2 : fieldOff Tryd.prog 71 2 = some 2 := by kernel_rfl
theorem pl_71 : placesK Tryd.prog 71 = some [(0, 1), (1, 1), (2, 1)] := by kernel_rfl
theorem tyk_86 : tyk Tryd.prog 86 = some (true, 4) := by kernel_rfl
theorem zk_86 : zeroK Tryd.prog 86 = some (4, .agg [.int .i64 0, .str [], .int .i64 0, .nils]) := by kernel_rfl
theorem fo_86_0 : fieldOff Tryd.prog 86 0 = some 0 := by kernel_rfl
theorem fo_86_1 : fieldOff Tryd.prog 86 1 = some 1 := by kernel_rfl
theorem fo_86_2 : fieldOff Tryd.prog 86 2 = some 2 := by kernel_rfl
theorem fo_86_3 : fieldOff Tryd.prog 86 3 = some 3 := by kernel_rfl
theorem tyk_87 : tyk Tryd.prog 87 = some (true, 4) := by kernel_rfl
theorem zk_87 : zeroK Tryd.prog 87 = some (4, .agg [.int .i64 0, .str [], .int .i64 0, .nils]) := by kernel_rfl
theorem fo_87_0 : fieldOff Tryd.prog 87 0 = some 0 := by kernel_rfl
theorem fo_87_1 : fieldOff Tryd.prog 87 1 = some 1 := by kernel_rfl
theorem fo_87_2 : fieldOff Tryd.prog 87 2 = some 2 := by kernel_rfl
theorem fo_87_3 : fieldOff Tryd.prog 87 3 = some 3 := by kernel_rfl
theorem pl_87 : placesK Tryd.prog 87 = some [(0, 1), (1, 1), (2, 1), (3, 1)] := by kernel_rfl
theorem tyk_97 : tyk Tryd.prog 97 = some (false, 1) := by kernel_rfl
theorem zk_97 : zeroK Tryd.prog 97 = some (1, .nils) := by kernel_rfl
theorem esz_97 : elemSz Tryd.prog 97 = some (9, 1) := by kernel_rfl
theorem eby_97 : elemBy Tryd.prog 97 = true := by kernel_rfl
theorem isl_97 : isSl Tryd.prog 97 = true := by kernel_rfl
theorem usl_97 : Tryd.prog.underlying 97 = some (.slice 9) := by kernel_rfl
theorem tyk_105 : tyk Tryd.prog 105 = some (false, 1) := by kernel_rfl
theorem tyk_106 : tyk Tryd.prog 106 = some (true, 2) := by kernel_rfl
theorem fo_106_0 : fieldOff Tryd.prog 106 0 = some 0 := by kernel_rfl
theorem fo_106_1 : fieldOff Tryd.prog 106 1 = some 1 := by kernel_rfl
theorem tyk_107 : tyk Tryd.prog 107 = some (true, 2) := by kernel_rfl
theorem fo_107_0 : fieldOff Tryd.prog 107 0 = some 0 := by kernel_rfl
theorem fo_107_1 : fieldOff Tryd.prog 107 1 = some 1 := by kernel_rfl
theorem pl_107 : placesK Tryd.prog 107 = some [(0, 1), (1, 1)] := by kernel_rfl
theorem tyk_114 : tyk Tryd.prog 114 = some (false, 1) := by kernel_rfl
theorem zk_114 : zeroK Tryd.prog 114 = some (1, .int .u64 0) := by kernel_rfl
theorem und_114 : Tryd.prog.underlying 114 = some (.int .u64) := by kernel_rfl
theorem tyk_116 : tyk Tryd.prog 116 = some (true, 256) := by kernel_rfl
theorem zk_116 : zeroK Tryd.prog 116 = some (256, .agg [.bool false, .bool false, .bool false, .bool false, .bool false, .bool false, .bool false, .bool false, .bool false, .bool false, .bool false, .bool false, .bool false, .bool false, .bool false, .bool false, .bool false, .bool false, .bool false, .bool false, .bool false, .bool false, .bool false, .bool false, .bool false, .bool false, .bool false, .bool false, .bool false, .bool false, .bool false, .bool false, .bool false, .bool false, .bool false, .bool false, .bool false, .bool false, .bool false, .bool false, .bool false, .bool false, .bool false, .bool false, .bool false, .bool false, .bool false, .bool false, .bool false, .bool false, .bool false, .bool false, .bool false, .bool false, .bool false, .bool false, .bool false, .bool false, .bool false, .bool false, .bool false, .bool false, .bool false, .bool false, .bool false, .bool false, .bool false, .bool false, .bool false, .bool false, .bool false, .bool false, .bool false, .bool false, .bool false, .bool false, .bool false, .bool false, .bool false, .bool false, .bool false, .bool false, .bool false, .bool false, .bool false, .bool false, .bool false, .bool false, .bool false, .bool false, .bool false, .bool false, .bool false, .bool false, .bool false, .bool false, .bool false, .bool false, .bool false, .bool false, .bool false, .bool false, .bool false, .bool false, .bool false, .bool false, .bool false, .bool false, .bool false, .bool false, .bool false, .bool false, .bool false, .bool false, .bool false, .bool false, .bool false, .bool false, .bool false, .bool false, .bool false, .bool false, .bool false, .bool false, .bool false, .bool false, .bool false, .bool false, .bool false, .bool false, .bool false, .bool false, .bool false, .bool false, .bool false, .bool false, .bool false, .bool false, .bool false, .bool false, .bool false, .bool false, .bool false, .bool false, .bool false, .bool false, .bool false, .bool false, .bool false, .bool false, .bool false, .bool false, .bool false, .bool false, .bool false, .bool false, .bool false, .bool false, .bool false, .bool false, .bool false, .bool false, .bool false, .bool false, .bool false, .bool false, .bool false, .bool false, .bool false, .bool false, .bool false, .bool false, .bool false, .bool false, .bool false, .bool false, .bool false, .bool false, .bool false, .bool false, .bool false, .bool false, .bool false, .bool false, .bool false, .bool false, .bool false, .bool false, .bool false, .bool false, .bool false, .bool false, .bool false, .bool false, .bool false, .bool false, .bool false, .bool false, .bool false, .bool false, .bool false, .bool false, .bool false, .bool false, .bool false, .bool false, .bool false, .bool false, .bool false, .bool false, .bool false, .bool false, .bool false, .bool false, .bool false, .bool false, .bool false, .bool false, .bool false, .bool false, .bool false, .bool false, .bool false, .bool false, .bool false, .bool false, .bool false, .bool false, .bool false, .bool false, .bool false, .bool false, .bool false, .bool false, .bool false, .bool false, .bool false, .bool false, .bool false, .bool false, .bool false, .bool false, .bool false, .bool false, .bool false, .bool false, .bool false, .bool false, .bool false, .bool false, .bool false, .bool false, .bool false, .bool false, .bool false, .bool false]) := by kernel_rfl
theorem und_116 : Tryd.prog.underlying 116 = some (.array 256 4) := by kernel_rfl
theorem tyk_117 : tyk Tryd.prog 117 = some (true, 256) := by kernel_rfl
theorem zk_117 : zeroK Tryd.prog 117 = some (256, .agg [.bool false, .bool false, .bool false, .bool false, .bool false, .bool false, .bool false, .bool false, .bool false, .bool false, .bool false, .bool false, .bool false, .bool false, .bool false, .bool false, .bool false, .bool false, .bool false, .bool false, .bool false, .bool false, .bool false, .bool false, .bool false, .bool false, .bool false, .bool false, .bool false, .bool false, .bool false, .bool false, .bool false, .bool false, .bool false, .bool false, .bool false, .bool false, .bool false, .bool false, .bool false, .bool false, .bool false, .bool false, .bool false, .bool false, .bool false, .bool false, .bool false, .bool false, .bool false, .bool false, .bool false, .bool false, .bool false, .bool false, .bool false, .bool false, .bool false, .bool false, .bool false, .bool false, .bool false, .bool false, .bool false, .bool false, .bool false, .bool false, .bool false, .bool false, .bool false, .bool false, .bool false, .bool false, .bool false, .bool false, .bool false, .bool false, .bool false, .bool false, .bool false, .bool false, .bool false, .bool false, .bool false, .bool false, .bool false, .bool false, .bool false, .bool false, .bool false, .bool false, .bool false, .bool false, .bool false, .bool false, .bool false, .bool false, .bool false, .bool false, .bool false, .bool false, .bool false, .bool false, .bool false, .bool false, .bool false, .bool false, .bool false, .bool false, .bool false, .bool false, .bool false, .bool false, .bool false, .bool false, .bool false, .bool false, .bool false, .bool false, .bool false, .bool false, .bool false, .bool false, .bool false, .bool false, .bool false, .bool false, .bool false, .bool false, .bool false, .bool false, .bool false, .bool false, .bool false, .bool false, .bool false, .bool false, .bool false, .bool false, .bool false, .bool false, .bool false, .bool false, .bool false, .bool false, .bool false, .bool false, .bool false, .bool false, .bool false, .bool false, .bool false, .bool false, .bool false, .bool false, .bool false, .bool false, .bool false, .bool false, .bool false, .bool false, .bool false, .bool false, .bool false, .bool false, .bool false, .bool false, .bool false, .bool false, .bool false, .bool false, .bool false, .bool false, .bool false, .bool false, .bool false, .bool false, .bool false, .bool false, .bool false, .bool false, .bool false, .bool false, .bool false, .bool false, .bool false, .bool false, .bool false, .bool false, .bool false, .bool false, .bool false, .bool false, .bool false, .bool false, .bool false, .bool false, .bool false, .bool false, .bool false, .bool false, .bool false, .bool false, .bool false, .bool false, .bool false, .bool false, .bool false, .bool false, .bool false, .bool false, .bool false, .bool false, .bool false, .bool false, .bool false, .bool false, .bool false, .bool false, .bool false, .bool false, .bool false, .bool false, .bool false, .bool false, .bool false, .bool false, .bool false, .bool false, .bool false, .bool false, .bool false, .bool false, .bool false, .bool false, .bool false, .bool false, .bool false, .bool false, .bool false, .bool false, .bool false, .bool false, .bool false, .bool false, .bool false, .bool false, .bool false, .bool false, .bool false, .bool false, .bool false, .bool false, .bool false, .bool false]) := by kernel_rfl
theorem und_117 : Tryd.prog.underlying 117 = some (.array 256 4) := by kernel_rfl
theorem tyk_121 : tyk Tryd.prog 121 = some (false, 1) := by kernel_rfl
theorem tyk_122 : tyk Tryd.prog 122 = some (false, 1) := by kernel_rfl
theorem tyk_131 : tyk Tryd.prog 131 = some (true, 256) := by kernel_rfl
theorem zk_131 : zeroK Tryd.prog 131 = some (256, .agg [.int .u8 0, .int .u8 0, .int .u8 0, .int .u8 0, .int .u8 0, .int .u8 0, .int .u8 0, .int .u8 0, .int .u8 0, .int .u8 0, .int .u8 0, .int .u8 0, .int .u8 0, .int .u8 0, .int .u8 0, .int .u8 0, .int .u8 0, .int .u8 0, .int .u8 0, .int .u8 0, .int .u8 0, .int .u8 0, .int .u8 0, .int .u8 0, .int .u8 0, .int .u8 0, .int .u8 0, .int .u8 0, .int .u8 0, .int .u8 0, .int .u8 0, .int .u8 0, .int .u8 0, .int .u8 0, .int .u8 0, .int .u8 0, .int .u8 0, .int .u8 0, .int .u8 0, .int .u8 0, .int .u8 0, .int .u8 0, .int .u8 0, .int .u8 0, .int .u8 0, .int .u8 0, .int .u8 0, .int .u8 0, .int .u8 0, .int .u8 0, .int .u8 0, .int .u8 0, .int .u8 0, .int .u8 0, .int .u8 0, .int .u8 0, .int .u8 0, .int .u8 0, .int .u8 0, .int .u8 0, .int .u8 0, .int .u8 0, .int .u8 0, .int .u8 0, .int .u8 0, .int .u8 0, .int .u8 0, .int .u8 0, .int .u8 0, .int .u8 0, .int .u8 0, .int .u8 0, .int .u8 0, .int .u8 0, .int .u8 0, .int .u8 0, .int .u8 0, .int .u8 0, .int .u8 0, .int .u8 0, .int .u8 0, .int .u8 0, .int .u8 0, .int .u8 0, .int .u8 0, .int .u8 0, .int .u8 0, .int .u8 0, .int .u8 0, .int .u8 0, .int .u8 0, .int .u8 0, .int .u8 0, .int .u8 0, .int .u8 0, .int .u8 0, .int .u8 0, .int .u8 0, .int .u8 0, .int .u8 0, .int .u8 0, .int .u8 0, .int .u8 0, .int .u8 0, .int .u8 0, .int .u8 0, .int .u8 0, .int .u8 0, .int .u8 0, .int .u8 0, .int .u8 0, .int .u8 0, .int .u8 0, .int .u8 0, .int .u8 0, .int .u8 0, .int .u8 0, .int .u8 0, .int .u8 0, .int .u8 0, .int .u8 0, .int .u8 0, .int .u8 0, .int .u8 0, .int .u8 0, .int .u8 0, .int .u8 0, .int .u8 0, .int .u8 0, .int .u8 0, .int .u8 0, .int .u8 0, .int .u8 0, .int .u8 0, .int .u8 0, .int .u8 0, .int .u8 0, .int .u8 0, .int .u8 0, .int .u8 0, .int .u8 0, .int .u8 0, .int .u8 0, .int .u8 0, .int .u8 0, .int .u8 0, .int .u8 0, .int .u8 0, .int .u8 0, .int .u8 0, .int .u8 0, .int .u8 0, .int .u8 0, .int .u8 0, .int .u8 0, .int .u8 0, .int .u8 0, .int .u8 0, .int .u8 0, .int .u8 0, .int .u8 0, .int .u8 0, .int .u8 0, .int .u8 0, .int .u8 0, .int .u8 0, .int .u8 0, .int .u8 0, .int .u8 0, .int .u8 0, .int .u8 0, .int .u8 0, .int .u8 0, .int .u8 0, .int .u8 0, .int .u8 0, .int .u8 0, .int .u8 0, .int .u8 0, .int .u8 0, .int .u8 0, .int .u8 0, .int .u8 0, .int .u8 0, .int .u8 0, .int .u8 0, .int .u8 0, .int .u8 0, .int .u8 0, .int .u8 0, .int .u8 0, .int .u8 0, .int .u8 0, .int .u8 0, .int .u8 0, .int .u8 0, .int .u8 0, .int .u8 0, .int .u8 0, .int .u8 0, .int .u8 0, .int .u8 0, .int .u8 0, .int .u8 0, .int .u8 0, .int .u8 0, .int .u8 0, .int .u8 0, .int .u8 0, .int .u8 0, .int .u8 0, .int .u8 0, .int .u8 0, .int .u8 0, .int .u8 0, .int .u8 0, .int .u8 0, .int .u8 0, .int .u8 0, .int .u8 0, .int .u8 0, .int .u8 0, .int .u8 0, .int .u8 0, .int .u8 0, .int .u8 0, .int .u8 0, .int .u8 0, .int .u8 0, .int .u8 0, .int .u8 0, .int .u8 0, .int .u8 0, .int .u8 0, .int .u8 0, .int .u8 0, .int .u8 0, .int .u8 0, .int .u8 0, .int .u8 0, .int .u8 0, .int .u8 0, .int .u8 0, .int .u8 0, .int .u8 0, .int .u8 0, .int .u8 0, .int .u8 0, .int .u8 0, .int .u8 0, .int .u8 0, .int .u8 0, .int .u8 0, .int .u8 0, .int .u8 0, .int .u8 0]) := by kernel_rfl
theorem eg_131 : Tryd.prog.eqGuardType Tryd.prog.depth 131 = false := by kernel_rfl
theorem und_131 : Tryd.prog.underlying 131 = some (.array 256 5) := by kernel_rfl
theorem tyk_132 : tyk Tryd.prog 132 = some (true, 2) := by kernel_rfl
theorem zk_132 : zeroK Tryd.prog 132 = some (2, .agg [.int .u8 0, .int .u8 0]) := by kernel_rfl
theorem fo_132_0 : fieldOff Tryd.prog 132 0 = some 0 := by kernel_rfl
theorem fo_132_1 : fieldOff Tryd.prog 132 1 = some 1 := by kernel_rfl
theorem tyk_133 : tyk Tryd.prog 133 = some (true, 2) := by kernel_rfl
theorem zk_133 : zeroK Tryd.prog 133 = some (2, .agg [.int .u8 0, .int .u8 0]) := by kernel_rfl
theorem fo_133_0 : fieldOff Tryd.prog 133 0 = some 0 := by kernel_rfl
theorem fo_133_1 : fieldOff Tryd.prog 133 1 = some 1 := by kernel_rfl
theorem fe_133 : flatStruct Tryd.prog 133 = some [0, 0] := by kernel_rfl
theorem pl_133 : placesK Tryd.prog 133 = some [(0, 1), (1, 1)] := by kernel_rfl
theorem tyk_134 : tyk Tryd.prog 134 = some (true, 32) := by kernel_rfl
theorem zk_134 : zeroK Tryd.prog 134 = some (32, .agg [.int .u8 0, .int .u8 0, .int .u8 0, .int .u8 0, .int .u8 0, .int .u8 0, .int .u8 0, .int .u8 0, .int .u8 0, .int .u8 0, .int .u8 0, .int .u8 0, .int .u8 0, .int .u8 0, .int .u8 0, .int .u8 0, .int .u8 0, .int .u8 0, .int .u8 0, .int .u8 0, .int .u8 0, .int .u8 0, .int .u8 0, .int .u8 0, .int .u8 0, .int .u8 0, .int .u8 0, .int .u8 0, .int .u8 0, .int .u8 0, .int .u8 0, .int .u8 0]) := by kernel_rfl
theorem und_134 : Tryd.prog.underlying 134 = some (.array 16 133) := by kernel_rfl
theorem tyk_143 : tyk Tryd.prog 143 = some (false, 1) := by kernel_rfl
theorem zk_143 : zeroK Tryd.prog 143 = some (1, .int .u32 0) := by kernel_rfl
theorem und_143 : Tryd.prog.underlying 143 = some (.int .u32) := by kernel_rfl
theorem cok_3 : callOK Tryd.prog 3 = true := by kernel_rfl
theorem cok_4 : callOK Tryd.prog 4 = true := by kernel_rfl
theorem cok_5 : callOK Tryd.prog 5 = true := by kernel_rfl
theorem cok_6 : callOK Tryd.prog 6 = true := by kernel_rfl
theorem cok_7 : callOK Tryd.prog 7 = true := by kernel_rfl
theorem cok_8 : callOK Tryd.prog 8 = true := by kernel_rfl
theorem cok_9 : callOK Tryd.prog 9 = true := by kernel_rfl
theorem cok_10 : callOK Tryd.prog 10 = true := by kernel_rfl
theorem cok_11 : callOK Tryd.prog 11 = true := by kernel_rfl
theorem cok_12 : callOK Tryd.prog 12 = true := by kernel_rfl
theorem cok_13 : callOK Tryd.prog 13 = true := by kernel_rfl
theorem cok_14 : callOK Tryd.prog 14 = true := by kernel_rfl
theorem cok_15 : callOK Tryd.prog 15 = true := by kernel_rfl
theorem cok_16 : callOK Tryd.prog 16 = true := by kernel_rfl
theorem cok_17 : callOK Tryd.prog 17 = true := by kernel_rfl
theorem cok_18 : callOK Tryd.prog 18 = true := by kernel_rfl
theorem cok_19 : callOK Tryd.prog 19 = true := by kernel_rfl
theorem cok_20 : callOK Tryd.prog 20 = true := by kernel_rfl
theorem cok_21 : callOK Tryd.prog 21 = true := by kernel_rfl
theorem cok_22 : callOK Tryd.prog 22 = true := by kernel_rfl
theorem cok_23 : callOK Tryd.prog 23 = true := by kernel_rfl
theorem cok_24 : callOK Tryd.prog 24 = true := by kernel_rfl
theorem cok_25 : callOK Tryd.prog 25 = true := by kernel_rfl
theorem cok_26 : callOK Tryd.prog 26 = true := by kernel_rfl
theorem cok_27 : callOK Tryd.prog 27 = true := by kernel_rfl
theorem cok_28 : callOK Tryd.prog 28 = true := by kernel_rfl
theorem cok_29 : callOK Tryd.prog 29 = true := by kernel_rfl
theorem cok_30 : callOK Tryd.prog 30 = true := by kernel_rfl
theorem cok_31 : callOK Tryd.prog 31 = true := by kernel_rfl
theorem cok_32 : callOK Tryd.prog 32 = true := by kernel_rfl
theorem cok_33 : callOK Tryd.prog 33 = true := by kernel_rfl
theorem cok_34 : callOK Tryd.prog 34 = true := by kernel_rfl
theorem cok_35 : callOK Tryd.prog 35 = true := by kernel_rfl
theorem cok_36 : callOK Tryd.prog 36 = true := by kernel_rfl
theorem cok_37 : callOK Tryd.prog 37 = true := by kernel_rfl
theorem cok_38 : callOK Tryd.prog 38 = true := by kernel_rfl
theorem cok_39 : callOK Tryd.prog 39 = true := by kernel_rfl
theorem cok_40 : callOK Tryd.prog 40 = true := by kernel_rfl
theorem cok_41 : callOK Tryd.prog 41 = true := by kernel_rfl
theorem cok_42 : callOK Tryd.prog 42 = true := by kernel_rfl
theorem cok_43 : callOK Tryd.prog 43 = true := by kernel_rfl
theorem cok_44 : callOK Tryd.prog 44 = true := by kernel_rfl
theorem cok_45 : callOK Tryd.prog 45 = true := by kernel_rfl
theorem cok_46 : callOK Tryd.prog 46 = true := by kernel_rfl
theorem cok_47 : callOK Tryd.prog 47 = true := by kernel_rfl
theorem cok_48 : callOK Tryd.prog 48 = true := by kernel_rfl
theorem cok_49 : callOK Tryd.prog 49 = true := by kernel_rfl
theorem cok_50 : callOK Tryd.prog 50 = true := by kernel_rfl
theorem cok_51 : callOK Tryd.prog 51 = true := by kernel_rfl
theorem cok_52 : callOK Tryd.prog 52 = true := by kernel_rfl
theorem cok_53 : callOK Tryd.prog 53 = true := by kernel_rfl
theorem cok_54 : callOK Tryd.prog 54 = true := by kernel_rfl
theorem cok_55 : callOK Tryd.prog 55 = true := by kernel_rfl
theorem cok_56 : callOK Tryd.prog 56 = true := by kernel_rfl
theorem cok_57 : callOK Tryd.prog 57 = true := by kernel_rfl
theorem cok_58 : callOK Tryd.prog 58 = true := by kernel_rfl
theorem cok_59 : callOK Tryd.prog 59 = true := by kernel_rfl
theorem cok_60 : callOK Tryd.prog 60 = true := by kernel_rfl
theorem cok_61 : callOK Tryd.prog 61 = true := by kernel_rfl
theorem cok_62 : callOK Tryd.prog 62 = true := by kernel_rfl
theorem cok_63 : callOK Tryd.prog 63 = true := by kernel_rfl
theorem cok_64 : callOK Tryd.prog 64 = true := by kernel_rfl
theorem cok_65 : callOK Tryd.prog 65 = true := by kernel_rfl
theorem cok_66 : callOK Tryd.prog 66 = true := by kernel_rfl
theorem cok_67 : callOK Tryd.prog 67 = true := by kernel_rfl
theorem cok_68 : callOK Tryd.prog 68 = true := by kernel_rfl
theorem cok_69 : callOK Tryd.prog 69 = true := by kernel_rfl
theorem cok_70 : callOK Tryd.prog 70 = true := by kernel_rfl
theorem cok_71 : callOK Tryd.prog 71 = true := by kernel_rfl
theorem cok_72 : callOK Tryd.prog 72 = true := by kernel_rfl
theorem cok_73 : callOK Tryd.prog 73 = true := by kernel_rfl
theorem cok_74 : callOK Tryd.prog 74 = true := by kernel_rfl
theorem cok_75 : callOK Tryd.prog 75 = true := by kernel_rfl
theorem cok_76 : callOK Tryd.prog 76 = true := by kernel_rfl
theorem cok_77 : callOK Tryd.prog 77 = true := by kernel_rfl
theorem cok_78 : callOK Tryd.prog 78 = true := by kernel_rfl
theorem cok_79 : callOK Tryd.prog 79 = true := by kernel_rfl
theorem cok_80 : callOK Tryd.prog 80 = true := by kernel_rfl
theorem cok_81 : callOK Tryd.prog 81 = true := by kernel_rfl
theorem cok_82 : callOK Tryd.prog 82 = true := by kernel_rfl
theorem cok_83 : callOK Tryd.prog 83 = true := by kernel_rfl
theorem cok_84 : callOK Tryd.prog 84 = true := by kernel_rfl
theorem cok_85 : callOK Tryd.prog 85 = true := by kernel_rfl
theorem cok_86 : callOK Tryd.prog 86 = true := by kernel_rfl
theorem cok_87 : callOK Tryd.prog 87 = true := by kernel_rfl
theorem cok_88 : callOK Tryd.prog 88 = true := by kernel_rfl
theorem cok_89 : callOK Tryd.prog 89 = true := by kernel_rfl
theorem cok_90 : callOK Tryd.prog 90 = true := by kernel_rfl
theorem cok_91 : callOK Tryd.prog 91 = true := by kernel_rfl
theorem cok_92 : callOK Tryd.prog 92 = true := by kernel_rfl
theorem cok_93 : callOK Tryd.prog 93 = true := by kernel_rfl
theorem cok_94 : callOK Tryd.prog 94 = true := by kernel_rfl
theorem cok_95 : callOK Tryd.prog 95 = true := by kernel_rfl
theorem cok_96 : callOK Tryd.prog 96 = true := by kernel_rfl
theorem cok_97 : callOK Tryd.prog 97 = true := by kernel_rfl
theorem cok_98 : callOK Tryd.prog 98 = true := by kernel_rfl
theorem cok_99 : callOK Tryd.prog 99 = true := by kernel_rfl
theorem cok_100 : callOK Tryd.prog 100 = true := by kernel_rfl
theorem cok_101 : callOK Tryd.prog 101 = true := by kernel_rfl
theorem cok_102 : callOK Tryd.prog 102 = true := by kernel_rfl
theorem cok_103 : callOK Tryd.prog 103 = true := by kernel_rfl
theorem cok_104 : callOK Tryd.prog 104 = true := by kernel_rfl
theorem cok_105 : callOK Tryd.prog 105 = true := by kernel_rfl
theorem cok_106 : callOK Tryd.prog 106 = true := by kernel_rfl
theorem cok_107 : callOK Tryd.prog 107 = true := by kernel_rfl
theorem cok_108 : callOK Tryd.prog 108 = true := by kernel_rfl
theorem cok_109 : callOK Tryd.prog 109 = true := by kernel_rfl
theorem cok_110 : callOK Tryd.prog 110 = true := by kernel_rfl
theorem cok_111 : callOK Tryd.prog 111 = true := by kernel_rfl
theorem cok_112 : callOK Tryd.prog 112 = true := by kernel_rfl
theorem cok_113 : callOK Tryd.prog 113 = true := by kernel_rfl
theorem cok_114 : callOK Tryd.prog 114 = true := by kernel_rfl
theorem cok_117 : callOK Tryd.prog 117 = true := by kernel_rfl
theorem cok_118 : callOK Tryd.prog 118 = true := by kernel_rfl
theorem cok_119 : callOK Tryd.prog 119 = true := by kernel_rfl
theorem cok_120 : callOK Tryd.prog 120 = true := by kernel_rfl
theorem cok_121 : callOK Tryd.prog 121 = true := by kernel_rfl
theorem cok_122 : callOK Tryd.prog 122 = true := by kernel_rfl
theorem cok_124 : callOK Tryd.prog 124 = true := by kernel_rfl
theorem cok_148 : callOK Tryd.prog 148 = true := by kernel_rfl
end Go.Proofs.YtjfpdbhjoofllaaDoor
