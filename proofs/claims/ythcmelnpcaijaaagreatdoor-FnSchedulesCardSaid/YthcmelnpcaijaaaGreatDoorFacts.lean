/-
  Closed facts on the types and functions of the translation, each by the kernel. No condition.
-/
import Derived.Test.YthcmelnpcaijaaaGreatDoorProg
import Derived.Test.YthcmelnpcaijaaaGreatDoorWf
import Derived.KernelRfl
namespace Go.Proofs.YthcmelnpcaijaaaGreatDoor
open Go.VS
theorem mixed_orders : Tryz.prog.follows .mixedOrders = true := by kernel_rfl
theorem tyk_2 : tyk Tryz.prog 2 = some (false, 1) := by kernel_rfl
theorem zk_2 : zeroK Tryz.prog 2 = some (1, .int .i64 0) := by kernel_rfl
theorem und_2 : Tryz.prog.underlying 2 = some (.int .i64) := by kernel_rfl
theorem tyk_3 : tyk Tryz.prog 3 = some (false, 1) := by kernel_rfl
theorem zk_3 : zeroK Tryz.prog 3 = some (1, .int .i64 0) := by kernel_rfl
theorem und_3 : Tryz.prog.underlying 3 = some (.int .i64) := by kernel_rfl
theorem tyk_4 : tyk Tryz.prog 4 = some (false, 1) := by kernel_rfl
theorem zk_4 : zeroK Tryz.prog 4 = some (1, .bool false) := by kernel_rfl
theorem und_4 : Tryz.prog.underlying 4 = some .bool := by kernel_rfl
theorem tyk_5 : tyk Tryz.prog 5 = some (false, 1) := by kernel_rfl
theorem zk_5 : zeroK Tryz.prog 5 = some (1, .int .u8 0) := by kernel_rfl
theorem und_5 : Tryz.prog.underlying 5 = some (.int .u8) := by kernel_rfl
theorem tyk_9 : tyk Tryz.prog 9 = some (false, 1) := by kernel_rfl
theorem zk_9 : zeroK Tryz.prog 9 = some (1, .str []) := by kernel_rfl
theorem istr_9 : isStr Tryz.prog 9 = true := by kernel_rfl
theorem tyk_12 : tyk Tryz.prog 12 = some (false, 1) := by kernel_rfl
theorem zk_12 : zeroK Tryz.prog 12 = some (1, .int .u64 0) := by kernel_rfl
theorem und_12 : Tryz.prog.underlying 12 = some (.int .u64) := by kernel_rfl
theorem tyk_13 : tyk Tryz.prog 13 = some (true, 2) := by kernel_rfl
theorem zk_13 : zeroK Tryz.prog 13 = some (2, .agg [.str [], .int .u64 0]) := by kernel_rfl
theorem fo_13_0 : fieldOff Tryz.prog 13 0 = some 0 := by kernel_rfl
theorem fo_13_1 : fieldOff Tryz.prog 13 1 = some 1 := by kernel_rfl
theorem tyk_21 : tyk Tryz.prog 21 = some (false, 1) := by kernel_rfl
theorem zk_21 : zeroK Tryz.prog 21 = some (1, .int .i32 0) := by kernel_rfl
theorem und_21 : Tryz.prog.underlying 21 = some (.int .i32) := by kernel_rfl
theorem tyk_22 : tyk Tryz.prog 22 = some (false, 1) := by kernel_rfl
theorem zk_22 : zeroK Tryz.prog 22 = some (1, .nils) := by kernel_rfl
theorem esz_22 : elemSz Tryz.prog 22 = some (5, 1) := by kernel_rfl
theorem eby_22 : elemBy Tryz.prog 22 = true := by kernel_rfl
theorem isl_22 : isSl Tryz.prog 22 = true := by kernel_rfl
theorem usl_22 : Tryz.prog.underlying 22 = some (.slice 5) := by kernel_rfl
theorem tyk_24 : tyk Tryz.prog 24 = some (false, 1) := by kernel_rfl
theorem zk_24 : zeroK Tryz.prog 24 = some (1, .nils) := by kernel_rfl
theorem esz_24 : elemSz Tryz.prog 24 = some (50, 4) := by kernel_rfl
theorem eby_24 : elemBy Tryz.prog 24 = true := by kernel_rfl
theorem isl_24 : isSl Tryz.prog 24 = true := by kernel_rfl
theorem usl_24 : Tryz.prog.underlying 24 = some (.slice 50) := by kernel_rfl
theorem tyk_33 : tyk Tryz.prog 33 = some (false, 1) := by kernel_rfl
theorem zk_33 : zeroK Tryz.prog 33 = some (1, .nils) := by kernel_rfl
theorem esz_33 : elemSz Tryz.prog 33 = some (3, 1) := by kernel_rfl
theorem eby_33 : elemBy Tryz.prog 33 = true := by kernel_rfl
theorem isl_33 : isSl Tryz.prog 33 = true := by kernel_rfl
theorem usl_33 : Tryz.prog.underlying 33 = some (.slice 3) := by kernel_rfl
theorem tyk_49 : tyk Tryz.prog 49 = some (true, 4) := by kernel_rfl
theorem zk_49 : zeroK Tryz.prog 49 = some (4, .agg [.int .i64 0, .int .i64 0, .int .i64 0, .int .i64 0]) := by kernel_rfl
theorem fo_49_0 : fieldOff Tryz.prog 49 0 = some 0 := by kernel_rfl
theorem fo_49_1 : fieldOff Tryz.prog 49 1 = some 1 := by kernel_rfl
theorem fo_49_2 : fieldOff Tryz.prog 49 2 = some 2 := by kernel_rfl
theorem fo_49_3 : fieldOff Tryz.prog 49 3 = some 3 := by kernel_rfl
theorem tyk_50 : tyk Tryz.prog 50 = some (true, 4) := by kernel_rfl
theorem zk_50 : zeroK Tryz.prog 50 = some (4, .agg [.int .i64 0, .int .i64 0, .int .i64 0, .int .i64 0]) := by kernel_rfl
theorem fo_50_0 : fieldOff Tryz.prog 50 0 = some 0 := by kernel_rfl
theorem fo_50_1 : fieldOff Tryz.prog 50 1 = some 1 := by kernel_rfl
theorem fo_50_2 : fieldOff Tryz.prog 50 2 = some 2 := by kernel_rfl
theorem fo_50_3 : fieldOff Tryz.prog 50 3 = some 3 := by kernel_rfl
theorem fe_50 : flatStruct Tryz.prog 50 = some [0, 0, 0, 0] := by kernel_rfl
theorem pl_50 : placesK Tryz.prog 50 = some [(0, 1), (1, 1), (2, 1), (3, 1)] := by kernel_rfl
theorem tyk_53 : tyk Tryz.prog 53 = some (false, 1) := by kernel_rfl
theorem tyk_54 : tyk Tryz.prog 54 = some (false, 1) := by kernel_rfl
theorem zk_54 : zeroK Tryz.prog 54 = some (1, .int .u64 0) := by kernel_rfl
theorem und_54 : Tryz.prog.underlying 54 = some (.int .u64) := by kernel_rfl
theorem tyk_55 : tyk Tryz.prog 55 = some (true, 3) := by kernel_rfl
theorem zk_55 : zeroK Tryz.prog 55 = some (3, .agg [.nils, .int .i64 0, .int .u64 0]) := by kernel_rfl
theorem fo_55_0 : fieldOff Tryz.prog 55 0 = some 0 := by kernel_rfl
theorem fo_55_1 : fieldOff Tryz.prog 55 1 = some 1 := by kernel_rfl
theorem fo_55_2 : fieldOff Tryz.prog 55 2 = some 2 := by kernel_rfl
theorem tyk_56 : tyk Tryz.prog 56 = some (true, 3) := by kernel_rfl
theorem zk_56 : zeroK Tryz.prog 56 = some (3, .agg [.nils, .int .i64 0, .int .u64 0]) := by kernel_rfl
theorem fo_56_0 : fieldOff Tryz.prog 56 0 = some 0 := by kernel_rfl
theorem fo_56_1 : fieldOff Tryz.prog 56 1 = some 1 := by kernel_rfl
theorem fo_56_2 : fieldOff Tryz.prog 56 2 = some 2 := by kernel_rfl
theorem pl_56 : placesK Tryz.prog 56 = some [(0, 1), (1, 1), (2, 1)] := by kernel_rfl
theorem tyk_59 : tyk Tryz.prog 59 = some (false, 1) := by kernel_rfl
theorem zk_59 : zeroK Tryz.prog 59 = some (1, .nils) := by kernel_rfl
theorem esz_59 : elemSz Tryz.prog 59 = some (9, 1) := by kernel_rfl
theorem eby_59 : elemBy Tryz.prog 59 = true := by kernel_rfl
theorem isl_59 : isSl Tryz.prog 59 = true := by kernel_rfl
theorem usl_59 : Tryz.prog.underlying 59 = some (.slice 9) := by kernel_rfl
theorem tyk_71 : tyk Tryz.prog 71 = some (true, 256) := by kernel_rfl
theorem zk_71 : zeroK Tryz.prog 71 = some (256, .agg [.bool false, .bool false, .bool false, .bool false, .bool false, .bool false, .bool false, .bool false, .bool false, .bool false, .bool false, .bool false, .bool false, .bool false, .bool false, .bool false, .bool false, .bool false, .bool false, .bool false, .bool false, .bool false, .bool false, .bool false, .bool false, .bool false, .bool false, .bool false, .bool false, .bool false, .bool false, .bool false, .bool false, .bool false, .bool false, .bool false, .bool false, .bool false, .bool false, .bool false, .bool false, .bool false, .bool false, .bool false, .bool false, .bool false, .bool false, .bool false, .bool false, .bool false, .bool false, .bool false, .bool false, .bool false, .bool false, .bool false, .bool false, .bool false, .bool false, .bool false, .bool false, .bool false, .bool false, .bool false, .bool false, .bool false, .bool false, .bool false, .bool false, .bool false, .bool false, .bool false, .bool false, .bool false, .bool false, .bool false, .bool false, .bool false, .bool false, .bool false, .bool false, .bool false, .bool false, .bool false, .bool false, .bool false, .bool false, .bool false, .bool false, .bool false, .bool false, .bool false, .bool false, .bool false, .bool false, .bool false, .bool false, .bool false, .bool false, .bool false, .bool false, .bool false, .bool false, .bool false, .bool false, .bool false, .bool false, .bool false, .bool false, .bool false, .bool false, .bool false, .bool false, .bool false, .bool false, .bool false, .bool false, .bool false, .bool false, .bool false, .bool false, .bool false, .bool false, .bool false, .bool false, .bool false, .bool false, .bool false, .bool false, .bool false, .bool false, .bool false, .bool false, .bool false, .bool false, .bool false, .bool false, .bool false, .bool false, .bool false, .bool false, .bool false, .bool false, .bool false, .bool false, .bool false, .bool false, .bool false, .bool false, .bool false, .bool false, .bool false, .bool false, .bool false, .bool false, .bool false, .bool false, .bool false, .bool false, .bool false, .bool false, .bool false, .bool false, .bool false, .bool false, .bool false, .bool false, .bool false, .bool false, .bool false, .bool false, .bool false, .bool false, .bool false, .bool false, .bool false, .bool false, .bool false, .bool false, .bool false, .bool false, .bool false, .bool false, .bool false, .bool false, .bool false, .bool false, .bool false, .bool false, .bool false, .bool false, .bool false, .bool false, .bool false, .bool false, .bool false, .bool false, .bool false, .bool false, .bool false, .bool false, .bool false, .bool false, .bool false, .bool false, .bool false, .bool false, .bool false, .bool false, .bool false, .bool false, .bool false, .bool false, .bool false, .bool false, .bool false, .bool false, .bool false, .bool false, .bool false, .bool false, .bool false, .bool false, .bool false, .bool false, .bool false, .bool false, .bool false, .bool false, .bool false, .bool false, .bool false, .bool false, .bool false, .bool false, .bool false, .bool false, .bool false, .bool false, .bool false, .bool false, .bool false, .bool false, .bool false, .bool false, .bool false, .bool false, .bool false, .bool false, .bool false, .bool false, .bool false, .bool false, .bool false, .bool false, .bool false]) := by kernel_rfl
theorem und_71 : Tryz.prog.underlying 71 = some (.array 256 4) := by kernel_rfl
theorem tyk_72 : tyk Tryz.prog 72 = some (true, 256) := by kernel_rfl
theorem zk_72 : zeroK Tryz.prog 72 = some (256, .agg [.bool false, .bool false, .bool false, .bool false, .bool false, .bool false, .bool false, .bool false, .bool false, .bool false, .bool false, .bool false, .bool false, .bool false, .bool false, .bool false, .bool false, .bool false, .bool false, .bool false, .bool false, .bool false, .bool false, .bool false, .bool false, .bool false, .bool false, .bool false, .bool false, .bool false, .bool false, .bool false, .bool false, .bool false, .bool false, .bool false, .bool false, .bool false, .bool false, .bool false, .bool false, .bool false, .bool false, .bool false, .bool false, .bool false, .bool false, .bool false, .bool false, .bool false, .bool false, .bool false, .bool false, .bool false, .bool false, .bool false, .bool false, .bool false, .bool false, .bool false, .bool false, .bool false, .bool false, .bool false, .bool false, .bool false, .bool false, .bool false, .bool false, .bool false, .bool false, .bool false, .bool false, .bool false, .bool false, .bool false, .bool false, .bool false, .bool false, .bool false, .bool false, .bool false, .bool false, .bool false, .bool false, .bool false, .bool false, .bool false, .bool false, .bool false, .bool false, .bool false, .bool false, .bool false, .bool false, .bool false, .bool false, .bool false, .bool false, .bool false, .bool false, .bool false, .bool false, .bool false, .bool false, .bool false, .bool false, .bool false, .bool false, .bool false, .bool false, .bool false, .bool false, .bool false, .bool false, .bool false, .bool false, .bool false, .bool false, .bool false, .bool false, .bool false, .bool false, .bool false, .bool false, .bool false, .bool false, .bool false, .bool false, .bool false, .bool false, .bool false, .bool false, .bool false, .bool false, .bool false, .bool false, .bool false, .bool false, .bool false, .bool false, .bool false, .bool false, .bool false, .bool false, .bool false, .bool false, .bool false, .bool false, .bool false, .bool false, .bool false, .bool false, .bool false, .bool false, .bool false, .bool false, .bool false, .bool false, .bool false, .bool false, .bool false, .bool false, .bool false, .bool false, .bool false, .bool false, .bool false, .bool false, .bool false, .bool false, .bool false, .bool false, .bool false, .bool false, .bool false, .bool false, .bool false, .bool false, .bool false, .bool false, .bool false, .bool false, .bool false, .bool false, .bool false, .bool false, .bool false, .bool false, .bool false, .bool false, .bool false, .bool false, .bool false, .bool false, .bool false, .bool false, .bool false, .bool false, .bool false, .bool false, .bool false, .bool false, .bool false, .bool false, .bool false, .bool false, .bool false, .bool false, .bool false, .bool false, .bool false, .bool false, .bool false, .bool false, .bool false, .bool false, .bool false, .bool false, .bool false, .bool false, .bool false, .bool false, .bool false, .bool false, .bool false, .bool false, .bool false, .bool false, .bool false, .bool false, .bool false, .bool false, .bool false, .bool false, .bool false, .bool false, .bool false, .bool false, .bool false, .bool false, .bool false, .bool false, .bool false, .bool false, .bool false, .bool false, .bool false, .bool false, .bool false, .bool false, .bool false, .bool false, .bool false, .bool false, .bool false]) := by kernel_rfl
theorem und_72 : Tryz.prog.underlying 72 = some (.array 256 4) := by kernel_rfl
theorem tyk_76 : tyk Tryz.prog 76 = some (false, 1) := by kernel_rfl
theorem tyk_85 : tyk Tryz.prog 85 = some (false, 1) := by kernel_rfl
theorem tyk_86 : tyk Tryz.prog 86 = some (true, 2) := by kernel_rfl
theorem fo_86_0 : fieldOff Tryz.prog 86 0 = some 0 := by kernel_rfl
theorem fo_86_1 : fieldOff Tryz.prog 86 1 = some 1 := by kernel_rfl
theorem tyk_87 : tyk Tryz.prog 87 = some (true, 2) := by kernel_rfl
theorem fo_87_0 : fieldOff Tryz.prog 87 0 = some 0 := by kernel_rfl
theorem fo_87_1 : fieldOff Tryz.prog 87 1 = some 1 := by kernel_rfl
theorem pl_87 : placesK Tryz.prog 87 = some [(0, 1), (1, 1)] := by kernel_rfl
theorem tyk_100 : tyk Tryz.prog 100 = some (false, 1) := by kernel_rfl
theorem zk_100 : zeroK Tryz.prog 100 = some (1, .int .u64 0) := by kernel_rfl
theorem und_100 : Tryz.prog.underlying 100 = some (.int .u64) := by kernel_rfl
theorem tyk_104 : tyk Tryz.prog 104 = some (false, 1) := by kernel_rfl
theorem tyk_106 : tyk Tryz.prog 106 = some (false, 1) := by kernel_rfl
theorem zk_106 : zeroK Tryz.prog 106 = some (1, .int .u32 0) := by kernel_rfl
theorem und_106 : Tryz.prog.underlying 106 = some (.int .u32) := by kernel_rfl
theorem tyk_113 : tyk Tryz.prog 113 = some (true, 256) := by kernel_rfl
theorem zk_113 : zeroK Tryz.prog 113 = some (256, .agg [.int .u8 0, .int .u8 0, .int .u8 0, .int .u8 0, .int .u8 0, .int .u8 0, .int .u8 0, .int .u8 0, .int .u8 0, .int .u8 0, .int .u8 0, .int .u8 0, .int .u8 0, .int .u8 0, .int .u8 0, .int .u8 0, .int .u8 0, .int .u8 0, .int .u8 0, .int .u8 0, .int .u8 0, .int .u8 0, .int .u8 0, .int .u8 0, .int .u8 0, .int .u8 0, .int .u8 0, .int .u8 0, .int .u8 0, .int .u8 0, .int .u8 0, .int .u8 0, .int .u8 0, .int .u8 0, .int .u8 0, .int .u8 0, .int .u8 0, .int .u8 0, .int .u8 0, .int .u8 0, .int .u8 0, .int .u8 0, .int .u8 0, .int .u8 0, .int .u8 0, .int .u8 0, .int .u8 0, .int .u8 0, .int .u8 0, .int .u8 0, .int .u8 0, .int .u8 0, .int .u8 0, .int .u8 0, .int .u8 0, .int .u8 0, .int .u8 0, .int .u8 0, .int .u8 0, .int .u8 0, .int .u8 0, .int .u8 0, .int .u8 0, .int .u8 0, .int .u8 0, .int .u8 0, .int .u8 0, .int .u8 0, .int .u8 0, .int .u8 0, .int .u8 0, .int .u8 0, .int .u8 0, .int .u8 0, .int .u8 0, .int .u8 0, .int .u8 0, .int .u8 0, .int .u8 0, .int .u8 0, .int .u8 0, .int .u8 0, .int .u8 0, .int .u8 0, .int .u8 0, .int .u8 0, .int .u8 0, .int .u8 0, .int .u8 0, .int .u8 0, .int .u8 0, .int .u8 0, .int .u8 0, .int .u8 0, .int .u8 0, .int .u8 0, .int .u8 0, .int .u8 0, .int .u8 0, .int .u8 0, .int .u8 0, .int .u8 0, .int .u8 0, .int .u8 0, .int .u8 0, .int .u8 0, .int .u8 0, .int .u8 0, .int .u8 0, .int .u8 0, .int .u8 0, .int .u8 0, .int .u8 0, .int .u8 0, .int .u8 0, .int .u8 0, .int .u8 0, .int .u8 0, .int .u8 0, .int .u8 0, .int .u8 0, .int .u8 0, .int .u8 0, .int .u8 0, .int .u8 0, .int .u8 0, .int .u8 0, .int .u8 0, .int .u8 0, .int .u8 0, .int .u8 0, .int .u8 0, .int .u8 0, .int .u8 0, .int .u8 0, .int .u8 0, .int .u8 0, .int .u8 0, .int .u8 0, .int .u8 0, .int .u8 0, .int .u8 0, .int .u8 0, .int .u8 0, .int .u8 0, .int .u8 0, .int .u8 0, .int .u8 0, .int .u8 0, .int .u8 0, .int .u8 0, .int .u8 0, .int .u8 0, .int .u8 0, .int .u8 0, .int .u8 0, .int .u8 0, .int .u8 0, .int .u8 0, .int .u8 0, .int .u8 0, .int .u8 0, .int .u8 0, .int .u8 0, .int .u8 0, .int .u8 0, .int .u8 0, .int .u8 0, .int .u8 0, .int .u8 0, .int .u8 0, .int .u8 0, .int .u8 0, .int .u8 0, .int .u8 0, .int .u8 0, .int .u8 0, .int .u8 0, .int .u8 0, .int .u8 0, .int .u8 0, .int .u8 0, .int .u8 0, .int .u8 0, .int .u8 0, .int .u8 0, .int .u8 0, .int .u8 0, .int .u8 0, .int .u8 0, .int .u8 0, .int .u8 0, .int .u8 0, .int .u8 0, .int .u8 0, .int .u8 0, .int .u8 0, .int .u8 0, .int .u8 0, .int .u8 0, .int .u8 0, .int .u8 0, .int .u8 0, .int .u8 0, .int .u8 0, .int .u8 0, .int .u8 0, .int .u8 0, .int .u8 0, .int .u8 0, .int .u8 0, .int .u8 0, .int .u8 0, .int .u8 0, .int .u8 0, .int .u8 0, .int .u8 0, .int .u8 0, .int .u8 0, .int .u8 0, .int .u8 0, .int .u8 0, .int .u8 0, .int .u8 0, .int .u8 0, .int .u8 0, .int .u8 0, .int .u8 0, .int .u8 0, .int .u8 0, .int .u8 0, .int .u8 0, .int .u8 0, .int .u8 0, .int .u8 0, .int .u8 0, .int .u8 0, .int .u8 0, .int .u8 0, .int .u8 0, .int .u8 0, .int .u8 0, .int .u8 0, .int .u8 0, .int .u8 0, .int .u8 0, .int .u8 0, .int .u8 0, .int .u8 0, .int .u8 0, .int .u8 0, .int .u8 0, .int .u8 0, .int .u8 0, .int .u8 0, .int .u8 0]) := by kernel_rfl
theorem eg_113 : Tryz.prog.eqGuardType Tryz.prog.depth 113 = false := by kernel_rfl
theorem und_113 : Tryz.prog.underlying 113 = some (.array 256 5) := by kernel_rfl
theorem tyk_114 : tyk Tryz.prog 114 = some (true, 2) := by kernel_rfl
theorem zk_114 : zeroK Tryz.prog 114 = some (2, .agg [.int .u8 0, .int .u8 0]) := by kernel_rfl
theorem fo_114_0 : fieldOff Tryz.prog 114 0 = some 0 := by kernel_rfl
theorem fo_114_1 : fieldOff Tryz.prog 114 1 = some 1 := by kernel_rfl
theorem tyk_115 : tyk Tryz.prog 115 = some (true, 2) := by kernel_rfl
theorem zk_115 : zeroK Tryz.prog 115 = some (2, .agg [.int .u8 0, .int .u8 0]) := by kernel_rfl
theorem fo_115_0 : fieldOff Tryz.prog 115 0 = some 0 := by kernel_rfl
theorem fo_115_1 : fieldOff Tryz.prog 115 1 = some 1 := by kernel_rfl
theorem fe_115 : flatStruct Tryz.prog 115 = some [0, 0] := by kernel_rfl
theorem pl_115 : placesK Tryz.prog 115 = some [(0, 1), (1, 1)] := by kernel_rfl
theorem tyk_116 : tyk Tryz.prog 116 = some (true, 32) := by kernel_rfl
theorem zk_116 : zeroK Tryz.prog 116 = some (32, .agg [.int .u8 0, .int .u8 0, .int .u8 0, .int .u8 0, .int .u8 0, .int .u8 0, .int .u8 0, .int .u8 0, .int .u8 0, .int .u8 0, .int .u8 0, .int .u8 0, .int .u8 0, .int .u8 0, .int .u8 0, .int .u8 0, .int .u8 0, .int .u8 0, .int .u8 0, .int .u8 0, .int .u8 0, .int .u8 0, .int .u8 0, .int .u8 0, .int .u8 0, .int .u8 0, .int .u8 0, .int .u8 0, .int .u8 0, .int .u8 0, .int .u8 0, .int .u8 0]) := by kernel_rfl
theorem und_116 : Tryz.prog.underlying 116 = some (.array 16 115) := by kernel_rfl
theorem tyk_118 : tyk Tryz.prog 118 = some (true, 24) := by kernel_rfl
theorem zk_118 : zeroK Tryz.prog 118 = some (24, .agg [.int .u8 0, .int .u8 0, .int .u8 0, .int .u8 0, .int .u8 0, .int .u8 0, .int .u8 0, .int .u8 0, .int .u8 0, .int .u8 0, .int .u8 0, .int .u8 0, .int .u8 0, .int .u8 0, .int .u8 0, .int .u8 0, .int .u8 0, .int .u8 0, .int .u8 0, .int .u8 0, .int .u8 0, .int .u8 0, .int .u8 0, .int .u8 0]) := by kernel_rfl
theorem eg_118 : Tryz.prog.eqGuardType Tryz.prog.depth 118 = false := by kernel_rfl
theorem und_118 : Tryz.prog.underlying 118 = some (.array 24 5) := by kernel_rfl
theorem tyk_124 : tyk Tryz.prog 124 = some (true, 20) := by kernel_rfl
theorem zk_124 : zeroK Tryz.prog 124 = some (20, .agg [.int .u64 0, .int .u64 0, .int .u64 0, .int .u64 0, .int .u64 0, .int .u64 0, .int .u64 0, .int .u64 0, .int .u64 0, .int .u64 0, .int .u64 0, .int .u64 0, .int .u64 0, .int .u64 0, .int .u64 0, .int .u64 0, .int .u64 0, .int .u64 0, .int .u64 0, .int .u64 0]) := by kernel_rfl
theorem eg_124 : Tryz.prog.eqGuardType Tryz.prog.depth 124 = false := by kernel_rfl
theorem und_124 : Tryz.prog.underlying 124 = some (.array 20 54) := by kernel_rfl
theorem tyk_125 : tyk Tryz.prog 125 = some (true, 65) := by kernel_rfl
theorem zk_125 : zeroK Tryz.prog 125 = some (65, .agg [.int .u8 0, .int .u8 0, .int .u8 0, .int .u8 0, .int .u8 0, .int .u8 0, .int .u8 0, .int .u8 0, .int .u8 0, .int .u8 0, .int .u8 0, .int .u8 0, .int .u8 0, .int .u8 0, .int .u8 0, .int .u8 0, .int .u8 0, .int .u8 0, .int .u8 0, .int .u8 0, .int .u8 0, .int .u8 0, .int .u8 0, .int .u8 0, .int .u8 0, .int .u8 0, .int .u8 0, .int .u8 0, .int .u8 0, .int .u8 0, .int .u8 0, .int .u8 0, .int .u8 0, .int .u8 0, .int .u8 0, .int .u8 0, .int .u8 0, .int .u8 0, .int .u8 0, .int .u8 0, .int .u8 0, .int .u8 0, .int .u8 0, .int .u8 0, .int .u8 0, .int .u8 0, .int .u8 0, .int .u8 0, .int .u8 0, .int .u8 0, .int .u8 0, .int .u8 0, .int .u8 0, .int .u8 0, .int .u8 0, .int .u8 0, .int .u8 0, .int .u8 0, .int .u8 0, .int .u8 0, .int .u8 0, .int .u8 0, .int .u8 0, .int .u8 0, .int .u8 0]) := by kernel_rfl
theorem eg_125 : Tryz.prog.eqGuardType Tryz.prog.depth 125 = false := by kernel_rfl
theorem und_125 : Tryz.prog.underlying 125 = some (.array 65 5) := by kernel_rfl
theorem tyk_128 : tyk Tryz.prog 128 = some (true, 32) := by kernel_rfl
theorem zk_128 : zeroK Tryz.prog 128 = some (32, .agg [.int .u8 0, .int .u8 0, .int .u8 0, .int .u8 0, .int .u8 0, .int .u8 0, .int .u8 0, .int .u8 0, .int .u8 0, .int .u8 0, .int .u8 0, .int .u8 0, .int .u8 0, .int .u8 0, .int .u8 0, .int .u8 0, .int .u8 0, .int .u8 0, .int .u8 0, .int .u8 0, .int .u8 0, .int .u8 0, .int .u8 0, .int .u8 0, .int .u8 0, .int .u8 0, .int .u8 0, .int .u8 0, .int .u8 0, .int .u8 0, .int .u8 0, .int .u8 0]) := by kernel_rfl
theorem eg_128 : Tryz.prog.eqGuardType Tryz.prog.depth 128 = false := by kernel_rfl
theorem und_128 : Tryz.prog.underlying 128 = some (.array 32 5) := by kernel_rfl
theorem tyk_129 : tyk Tryz.prog 129 = some (true, 64) := by kernel_rfl
theorem zk_129 : zeroK Tryz.prog 129 = some (64, .agg [.int .u8 0, .int .u8 0, .int .u8 0, .int .u8 0, .int .u8 0, .int .u8 0, .int .u8 0, .int .u8 0, .int .u8 0, .int .u8 0, .int .u8 0, .int .u8 0, .int .u8 0, .int .u8 0, .int .u8 0, .int .u8 0, .int .u8 0, .int .u8 0, .int .u8 0, .int .u8 0, .int .u8 0, .int .u8 0, .int .u8 0, .int .u8 0, .int .u8 0, .int .u8 0, .int .u8 0, .int .u8 0, .int .u8 0, .int .u8 0, .int .u8 0, .int .u8 0, .int .u8 0, .int .u8 0, .int .u8 0, .int .u8 0, .int .u8 0, .int .u8 0, .int .u8 0, .int .u8 0, .int .u8 0, .int .u8 0, .int .u8 0, .int .u8 0, .int .u8 0, .int .u8 0, .int .u8 0, .int .u8 0, .int .u8 0, .int .u8 0, .int .u8 0, .int .u8 0, .int .u8 0, .int .u8 0, .int .u8 0, .int .u8 0, .int .u8 0, .int .u8 0, .int .u8 0, .int .u8 0, .int .u8 0, .int .u8 0, .int .u8 0, .int .u8 0]) := by kernel_rfl
theorem eg_129 : Tryz.prog.eqGuardType Tryz.prog.depth 129 = false := by kernel_rfl
theorem und_129 : Tryz.prog.underlying 129 = some (.array 64 5) := by kernel_rfl
theorem cok_3 : callOK Tryz.prog 3 = true := by kernel_rfl
theorem cok_4 : callOK Tryz.prog 4 = true := by kernel_rfl
theorem cok_5 : callOK Tryz.prog 5 = true := by kernel_rfl
theorem cok_6 : callOK Tryz.prog 6 = true := by kernel_rfl
theorem cok_7 : callOK Tryz.prog 7 = true := by kernel_rfl
theorem cok_8 : callOK Tryz.prog 8 = true := by kernel_rfl
theorem cok_9 : callOK Tryz.prog 9 = true := by kernel_rfl
theorem cok_10 : callOK Tryz.prog 10 = true := by kernel_rfl
theorem cok_11 : callOK Tryz.prog 11 = true := by kernel_rfl
theorem cok_12 : callOK Tryz.prog 12 = true := by kernel_rfl
theorem cok_13 : callOK Tryz.prog 13 = true := by kernel_rfl
theorem cok_14 : callOK Tryz.prog 14 = true := by kernel_rfl
theorem cok_15 : callOK Tryz.prog 15 = true := by kernel_rfl
theorem cok_16 : callOK Tryz.prog 16 = true := by kernel_rfl
theorem cok_17 : callOK Tryz.prog 17 = true := by kernel_rfl
theorem cok_18 : callOK Tryz.prog 18 = true := by kernel_rfl
theorem cok_19 : callOK Tryz.prog 19 = true := by kernel_rfl
theorem cok_20 : callOK Tryz.prog 20 = true := by kernel_rfl
theorem cok_21 : callOK Tryz.prog 21 = true := by kernel_rfl
theorem cok_22 : callOK Tryz.prog 22 = true := by kernel_rfl
theorem cok_23 : callOK Tryz.prog 23 = true := by kernel_rfl
theorem cok_24 : callOK Tryz.prog 24 = true := by kernel_rfl
theorem cok_25 : callOK Tryz.prog 25 = true := by kernel_rfl
theorem cok_26 : callOK Tryz.prog 26 = true := by kernel_rfl
theorem cok_27 : callOK Tryz.prog 27 = true := by kernel_rfl
theorem cok_28 : callOK Tryz.prog 28 = true := by kernel_rfl
theorem cok_29 : callOK Tryz.prog 29 = true := by kernel_rfl
theorem cok_30 : callOK Tryz.prog 30 = true := by kernel_rfl
theorem cok_31 : callOK Tryz.prog 31 = true := by kernel_rfl
theorem cok_32 : callOK Tryz.prog 32 = true := by kernel_rfl
theorem cok_33 : callOK Tryz.prog 33 = true := by kernel_rfl
theorem cok_34 : callOK Tryz.prog 34 = true := by kernel_rfl
theorem cok_35 : callOK Tryz.prog 35 = true := by kernel_rfl
theorem cok_36 : callOK Tryz.prog 36 = true := by kernel_rfl
theorem cok_37 : callOK Tryz.prog 37 = true := by kernel_rfl
theorem cok_38 : callOK Tryz.prog 38 = true := by kernel_rfl
theorem cok_39 : callOK Tryz.prog 39 = true := by kernel_rfl
theorem cok_40 : callOK Tryz.prog 40 = true := by kernel_rfl
theorem cok_41 : callOK Tryz.prog 41 = true := by kernel_rfl
theorem cok_42 : callOK Tryz.prog 42 = true := by kernel_rfl
theorem cok_43 : callOK Tryz.prog 43 = true := by kernel_rfl
theorem cok_44 : callOK Tryz.prog 44 = true := by kernel_rfl
theorem cok_45 : callOK Tryz.prog 45 = true := by kernel_rfl
theorem cok_46 : callOK Tryz.prog 46 = true := by kernel_rfl
theorem cok_47 : callOK Tryz.prog 47 = true := by kernel_rfl
theorem cok_48 : callOK Tryz.prog 48 = true := by kernel_rfl
theorem cok_49 : callOK Tryz.prog 49 = true := by kernel_rfl
theorem cok_50 : callOK Tryz.prog 50 = true := by kernel_rfl
theorem cok_51 : callOK Tryz.prog 51 = true := by kernel_rfl
theorem cok_52 : callOK Tryz.prog 52 = true := by kernel_rfl
theorem cok_53 : callOK Tryz.prog 53 = true := by kernel_rfl
theorem cok_54 : callOK Tryz.prog 54 = true := by kernel_rfl
theorem cok_55 : callOK Tryz.prog 55 = true := by kernel_rfl
theorem cok_56 : callOK Tryz.prog 56 = true := by kernel_rfl
theorem cok_57 : callOK Tryz.prog 57 = true := by kernel_rfl
theorem cok_58 : callOK Tryz.prog 58 = true := by kernel_rfl
theorem cok_59 : callOK Tryz.prog 59 = true := by kernel_rfl
theorem cok_60 : callOK Tryz.prog 60 = true := by kernel_rfl
theorem cok_61 : callOK Tryz.prog 61 = true := by kernel_rfl
theorem cok_62 : callOK Tryz.prog 62 = true := by kernel_rfl
theorem cok_63 : callOK Tryz.prog 63 = true := by kernel_rfl
theorem cok_64 : callOK Tryz.prog 64 = true := by kernel_rfl
theorem cok_65 : callOK Tryz.prog 65 = true := by kernel_rfl
theorem cok_66 : callOK Tryz.prog 66 = true := by kernel_rfl
theorem cok_67 : callOK Tryz.prog 67 = true := by kernel_rfl
theorem cok_68 : callOK Tryz.prog 68 = true := by kernel_rfl
theorem cok_69 : callOK Tryz.prog 69 = true := by kernel_rfl
theorem cok_70 : callOK Tryz.prog 70 = true := by kernel_rfl
theorem cok_71 : callOK Tryz.prog 71 = true := by kernel_rfl
theorem cok_72 : callOK Tryz.prog 72 = true := by kernel_rfl
theorem cok_73 : callOK Tryz.prog 73 = true := by kernel_rfl
theorem cok_74 : callOK Tryz.prog 74 = true := by kernel_rfl
theorem cok_75 : callOK Tryz.prog 75 = true := by kernel_rfl
theorem cok_76 : callOK Tryz.prog 76 = true := by kernel_rfl
theorem cok_78 : callOK Tryz.prog 78 = true := by kernel_rfl
theorem cok_79 : callOK Tryz.prog 79 = true := by kernel_rfl
theorem cok_80 : callOK Tryz.prog 80 = true := by kernel_rfl
theorem cok_81 : callOK Tryz.prog 81 = true := by kernel_rfl
theorem cok_82 : callOK Tryz.prog 82 = true := by kernel_rfl
theorem cok_83 : callOK Tryz.prog 83 = true := by kernel_rfl
theorem cok_84 : callOK Tryz.prog 84 = true := by kernel_rfl
theorem cok_85 : callOK Tryz.prog 85 = true := by kernel_rfl
theorem cok_86 : callOK Tryz.prog 86 = true := by kernel_rfl
theorem cok_87 : callOK Tryz.prog 87 = true := by kernel_rfl
theorem cok_88 : callOK Tryz.prog 88 = true := by kernel_rfl
theorem cok_89 : callOK Tryz.prog 89 = true := by kernel_rfl
theorem cok_91 : callOK Tryz.prog 91 = true := by kernel_rfl
theorem cok_92 : callOK Tryz.prog 92 = true := by kernel_rfl
theorem cok_95 : callOK Tryz.prog 95 = true := by kernel_rfl
theorem cok_96 : callOK Tryz.prog 96 = true := by kernel_rfl
theorem cok_97 : callOK Tryz.prog 97 = true := by kernel_rfl
theorem cok_98 : callOK Tryz.prog 98 = true := by kernel_rfl
theorem cok_99 : callOK Tryz.prog 99 = true := by kernel_rfl
theorem cok_100 : callOK Tryz.prog 100 = true := by kernel_rfl
theorem cok_101 : callOK Tryz.prog 101 = true := by kernel_rfl
theorem cok_102 : callOK Tryz.prog 102 = true := by kernel_rfl
theorem cok_103 : callOK Tryz.prog 103 = true := by kernel_rfl
theorem cok_104 : callOK Tryz.prog 104 = true := by kernel_rfl
theorem cok_105 : callOK Tryz.prog 105 = true := by kernel_rfl
theorem cok_106 : callOK Tryz.prog 106 = true := by kernel_rfl
theorem cok_107 : callOK Tryz.prog 107 = true := by kernel_rfl
theorem cok_133 : callOK Tryz.prog 133 = true := by kernel_rfl
end Go.Proofs.YthcmelnpcaijaaaGreatDoor
