/-
  Closed facts on the types and functions of the translation, each by the kernel. No condition.
-/
import Derived.Test.YtlpnicmlgckdnaaDoorProg
import Derived.Test.YtlpnicmlgckdnaaDoorWf
import Derived.KernelRfl
namespace Go.Proofs.YtlpnicmlgckdnaaDoor
open Go.VS
theorem mixed_orders : Tryd.prog.follows .mixedOrders = true := by kernel_rfl
theorem tyk_2 : tyk Tryd.prog 2 = some (false, 1) := by kernel_rfl
theorem zk_2 : zeroK Tryd.prog 2 = some (1, .int .i64 0) := by kernel_rfl
theorem und_2 : Tryd.prog.underlying 2 = some (.int .i64) := by kernel_rfl
theorem tyk_3 : tyk Tryd.prog 3 = some (false, 1) := by kernel_rfl
theorem zk_3 : zeroK Tryd.prog 3 = some (1, .int .i64 0) := by kernel_rfl
theorem und_3 : Tryd.prog.underlying 3 = some (.int .i64) := by kernel_rfl
theorem tyk_4 : tyk Tryd.prog 4 = some (false, 1) := by kernel_rfl
theorem zk_4 : zeroK Tryd.prog 4 = some (1, .bool false) := by kernel_rfl
theorem und_4 : Tryd.prog.underlying 4 = some .bool := by kernel_rfl
theorem tyk_5 : tyk Tryd.prog 5 = some (false, 1) := by kernel_rfl
theorem zk_5 : zeroK Tryd.prog 5 = some (1, .int .u8 0) := by kernel_rfl
theorem und_5 : Tryd.prog.underlying 5 = some (.int .u8) := by kernel_rfl
theorem tyk_9 : tyk Tryd.prog 9 = some (false, 1) := by kernel_rfl
theorem zk_9 : zeroK Tryd.prog 9 = some (1, .str []) := by kernel_rfl
theorem istr_9 : isStr Tryd.prog 9 = true := by kernel_rfl
theorem tyk_12 : tyk Tryd.prog 12 = some (false, 1) := by kernel_rfl
theorem zk_12 : zeroK Tryd.prog 12 = some (1, .int .u64 0) := by kernel_rfl
theorem und_12 : Tryd.prog.underlying 12 = some (.int .u64) := by kernel_rfl
theorem tyk_13 : tyk Tryd.prog 13 = some (true, 2) := by kernel_rfl
theorem zk_13 : zeroK Tryd.prog 13 = some (2, .agg [.str [], .int .u64 0]) := by kernel_rfl
theorem fo_13_0 : fieldOff Tryd.prog 13 0 = some 0 := by kernel_rfl
theorem fo_13_1 : fieldOff Tryd.prog 13 1 = some 1 := by kernel_rfl
theorem tyk_21 : tyk Tryd.prog 21 = some (false, 1) := by kernel_rfl
theorem zk_21 : zeroK Tryd.prog 21 = some (1, .int .i32 0) := by kernel_rfl
theorem und_21 : Tryd.prog.underlying 21 = some (.int .i32) := by kernel_rfl
theorem tyk_27 : tyk Tryd.prog 27 = some (false, 1) := by kernel_rfl
theorem zk_27 : zeroK Tryd.prog 27 = some (1, .nils) := by kernel_rfl
theorem esz_27 : elemSz Tryd.prog 27 = some (29, 3) := by kernel_rfl
theorem eby_27 : elemBy Tryd.prog 27 = true := by kernel_rfl
theorem isl_27 : isSl Tryd.prog 27 = true := by kernel_rfl
theorem usl_27 : Tryd.prog.underlying 27 = some (.slice 29) := by kernel_rfl
theorem tyk_28 : tyk Tryd.prog 28 = some (true, 3) := by kernel_rfl
theorem zk_28 : zeroK Tryd.prog 28 = some (3, .agg [.int .u8 0, .int .i64 0, .nils]) := by kernel_rfl
theorem fo_28_0 : fieldOff Tryd.prog 28 0 = some 0 := by kernel_rfl
theorem fo_28_1 : fieldOff Tryd.prog 28 1 = some 1 := by kernel_rfl
theorem fo_28_2 : fieldOff Tryd.prog 28 2 = some 2 := by kernel_rfl
theorem tyk_29 : tyk Tryd.prog 29 = some (true, 3) := by kernel_rfl
theorem zk_29 : zeroK Tryd.prog 29 = some (3, .agg [.int .u8 0, .int .i64 0, .nils]) := by kernel_rfl
theorem fo_29_0 : fieldOff Tryd.prog 29 0 = some 0 := by kernel_rfl
theorem fo_29_1 : fieldOff Tryd.prog 29 1 = some 1 := by kernel_rfl
theorem fo_29_2 : fieldOff Tryd.prog 29 2 = some 2 := by kernel_rfl
theorem pl_29 : placesK Tryd.prog 29 = some [(0, 1), (1, 1), (2, 1)] := by kernel_rfl
theorem tyk_39 : tyk Tryd.prog 39 = some (false, 1) := by kernel_rfl
theorem zk_39 : zeroK Tryd.prog 39 = some (1, .nils) := by kernel_rfl
theorem esz_39 : elemSz Tryd.prog 39 = some (52, 2) := by kernel_rfl
theorem eby_39 : elemBy Tryd.prog 39 = true := by kernel_rfl
theorem isl_39 : isSl Tryd.prog 39 = true := by kernel_rfl
theorem usl_39 : Tryd.prog.underlying 39 = some (.slice 52) := by kernel_rfl
theorem tyk_40 : tyk Tryd.prog 40 = some (true, 4) := by kernel_rfl
theorem zk_40 : zeroK Tryd.prog 40 = some (4, .agg [.int .i64 0, .int .i64 0, .int .i64 0, .nils]) := by kernel_rfl
theorem fo_40_0 : fieldOff Tryd.prog 40 0 = some 0 := by kernel_rfl
theorem fo_40_1 : fieldOff Tryd.prog 40 1 = some 1 := by kernel_rfl
theorem fo_40_2 : fieldOff Tryd.prog 40 2 = some 2 := by kernel_rfl
theorem fo_40_3 : fieldOff Tryd.prog 40 3 = some 3 := by kernel_rfl
theorem tyk_41 : tyk Tryd.prog 41 = some (true, 4) := by kernel_rfl
theorem zk_41 : zeroK Tryd.prog 41 = some (4, .agg [.int .i64 0, .int .i64 0, .int .i64 0, .nils]) := by kernel_rfl
theorem fo_41_0 : fieldOff Tryd.prog 41 0 = some 0 := by kernel_rfl
theorem fo_41_1 : fieldOff Tryd.prog 41 1 = some 1 := by kernel_rfl
theorem fo_41_2 : fieldOff Tryd.prog 41 2 = some 2 := by kernel_rfl
theorem fo_41_3 : fieldOff Tryd.prog 41 3 = some 3 := by kernel_rfl
theorem pl_41 : placesK Tryd.prog 41 = some [(0, 1), (1, 1), (2, 1), (3, 1)] := by kernel_rfl
theorem tyk_42 : tyk Tryd.prog 42 = some (false, 1) := by kernel_rfl
theorem tyk_43 : tyk Tryd.prog 43 = some (true, 5) := by kernel_rfl
theorem zk_43 : zeroK Tryd.prog 43 = some (5, .agg [.str [], .int .i64 0, .bool false, .int .i64 0, .int .i64 0]) := by kernel_rfl
theorem fo_43_0 : fieldOff Tryd.prog 43 0 = some 0 := by kernel_rfl
theorem fo_43_1 : fieldOff Tryd.prog 43 1 = some 1 := by kernel_rfl
theorem fo_43_2 : fieldOff Tryd.prog 43 2 = some 2 := by kernel_rfl
theorem fo_43_3 : fieldOff Tryd.prog 43 3 = some 3 := by kernel_rfl
theorem fo_43_4 : fieldOff Tryd.prog 43 4 = some 4 := by kernel_rfl
theorem tyk_44 : tyk Tryd.prog 44 = some (true, 5) := by kernel_rfl
theorem zk_44 : zeroK Tryd.prog 44 = some (5, .agg [.str [], .int .i64 0, .bool false, .int .i64 0, .int .i64 0]) := by kernel_rfl
theorem fo_44_0 : fieldOff Tryd.prog 44 0 = some 0 := by kernel_rfl
theorem fo_44_1 : fieldOff Tryd.prog 44 1 = some 1 := by kernel_rfl
theorem fo_44_2 : fieldOff Tryd.prog 44 2 = some 2 := by kernel_rfl
theorem fo_44_3 : fieldOff Tryd.prog 44 3 = some 3 := by kernel_rfl
theorem fo_44_4 : fieldOff Tryd.prog 44 4 = some 4 := by kernel_rfl
theorem fe_44 : flatStruct Tryd.prog 44 = some [2, 0, 1, 0, 0] := by kernel_rfl
theorem pl_44 : placesK Tryd.prog 44 = some [(0, 1), (1, 1), (2, 1), (3, 1), (4, 1)] := by kernel_rfl
theorem tyk_51 : tyk Tryd.prog 51 = some (true, 2) := by kernel_rfl
theorem zk_51 : zeroK Tryd.prog 51 = some (2, .agg [.int .i64 0, .int .i64 0]) := by kernel_rfl
theorem fo_51_0 : fieldOff Tryd.prog 51 0 = some 0 := by kernel_rfl
theorem fo_51_1 : fieldOff Tryd.prog 51 1 = some 1 := by kernel_rfl
theorem tyk_52 : tyk Tryd.prog 52 = some (true, 2) := by kernel_rfl
theorem zk_52 : zeroK Tryd.prog 52 = some (2, .agg [.int .i64 0, .int .i64 0]) := by kernel_rfl
theorem fo_52_0 : fieldOff Tryd.prog 52 0 = some 0 := by kernel_rfl
theorem fo_52_1 : fieldOff Tryd.prog 52 1 = some 1 := by kernel_rfl
theorem fe_52 : flatStruct Tryd.prog 52 = some [0, 0] := by kernel_rfl
theorem pl_52 : placesK Tryd.prog 52 = some [(0, 1), (1, 1)] := by kernel_rfl
theorem tyk_59 : tyk Tryd.prog 59 = some (false, 1) := by kernel_rfl
theorem zk_59 : zeroK Tryd.prog 59 = some (1, .int .i64 0) := by kernel_rfl
theorem und_59 : Tryd.prog.underlying 59 = some (.int .i64) := by kernel_rfl
theorem tyk_60 : tyk Tryd.prog 60 = some (false, 1) := by kernel_rfl
theorem zk_60 : zeroK Tryd.prog 60 = some (1, .nils) := by kernel_rfl
theorem esz_60 : elemSz Tryd.prog 60 = some (5, 1) := by kernel_rfl
theorem eby_60 : elemBy Tryd.prog 60 = true := by kernel_rfl
theorem isl_60 : isSl Tryd.prog 60 = true := by kernel_rfl
theorem usl_60 : Tryd.prog.underlying 60 = some (.slice 5) := by kernel_rfl
theorem tyk_63 : tyk Tryd.prog 63 = some (false, 1) := by kernel_rfl
theorem tyk_66 : tyk Tryd.prog 66 = some (false, 1) := by kernel_rfl
theorem zk_66 : zeroK Tryd.prog 66 = some (1, .int .u64 0) := by kernel_rfl
theorem und_66 : Tryd.prog.underlying 66 = some (.int .u64) := by kernel_rfl
theorem tyk_69 : tyk Tryd.prog 69 = some (false, 1) := by kernel_rfl
theorem zk_69 : zeroK Tryd.prog 69 = some (1, .int .u64 0) := by kernel_rfl
theorem und_69 : Tryd.prog.underlying 69 = some (.int .u64) := by kernel_rfl
theorem tyk_71 : tyk Tryd.prog 71 = some (true, 3) := by kernel_rfl
theorem fo_71_0 : fieldOff Tryd.prog 71 0 = some 0 := by kernel_rfl
theorem fo_71_1 : fieldOff Tryd.prog 71 1 = some 1 := by kernel_rfl
theorem fo_71_2 : fieldOff Tryd.prog 71 2 = some 2 := by kernel_rfl
theorem tyk_72 : tyk Tryd.prog 72 = some (true, 3) := by kernel_rfl
theorem fo_72_0 : fieldOff Tryd.prog 72 0 = some 0 := by kernel_rfl
theorem fo_72_1 : fieldOff Tryd.prog 72 1 = some 1 := by kernel_rfl
theorem fo_72_2 : fieldOff Tryd.prog 72 2 = some 2 := by kernel_rfl
theorem pl_72 : placesK Tryd.prog 72 = some [(0, 1), (1, 1), (2, 1)] := by kernel_rfl
theorem tyk_76 : tyk Tryd.prog 76 = some (false, 1) := by kernel_rfl
theorem tyk_77 : tyk Tryd.prog 77 = some (false, 1) := by kernel_rfl
theorem tyk_78 : tyk Tryd.prog 78 = some (true, 1) := by kernel_rfl
theorem zk_78 : zeroK Tryd.prog 78 = some (1, .agg [.str []]) := by kernel_rfl
theorem fo_78_0 : fieldOff Tryd.prog 78 0 = some 0 := by kernel_rfl
theorem tyk_79 : tyk Tryd.prog 79 = some (true, 1) := by kernel_rfl
theorem zk_79 : zeroK Tryd.prog 79 = some (1, .agg [.str []]) := by kernel_rfl
theorem fo_79_0 : fieldOff Tryd.prog 79 0 = some 0 := by kernel_rfl
theorem fe_79 : flatStruct Tryd.prog 79 = some [2] := by kernel_rfl
theorem pl_79 : placesK Tryd.prog 79 = some [(0, 1)] := by kernel_rfl
theorem tyk_80 : tyk Tryd.prog 80 = some (true, 24) := by kernel_rfl
theorem zk_80 : zeroK Tryd.prog 80 = some (24, .agg [.int .u8 0, .int .u8 0, .int .u8 0, .int .u8 0, .int .u8 0, .int .u8 0, .int .u8 0, .int .u8 0, .int .u8 0, .int .u8 0, .int .u8 0, .int .u8 0, .int .u8 0, .int .u8 0, .int .u8 0, .int .u8 0, .int .u8 0, .int .u8 0, .int .u8 0, .int .u8 0, .int .u8 0, .int .u8 0, .int .u8 0, .int .u8 0]) := by kernel_rfl
theorem eg_80 : Tryd.prog.eqGuardType Tryd.prog.depth 80 = false := by kernel_rfl
theorem und_80 : Tryd.prog.underlying 80 = some (.array 24 5) := by kernel_rfl
theorem tyk_87 : tyk Tryd.prog 87 = some (true, 20) := by kernel_rfl
theorem zk_87 : zeroK Tryd.prog 87 = some (20, .agg [.int .u64 0, .int .u64 0, .int .u64 0, .int .u64 0, .int .u64 0, .int .u64 0, .int .u64 0, .int .u64 0, .int .u64 0, .int .u64 0, .int .u64 0, .int .u64 0, .int .u64 0, .int .u64 0, .int .u64 0, .int .u64 0, .int .u64 0, .int .u64 0, .int .u64 0, .int .u64 0]) := by kernel_rfl
theorem eg_87 : Tryd.prog.eqGuardType Tryd.prog.depth 87 = false := by kernel_rfl
theorem und_87 : Tryd.prog.underlying 87 = some (.array 20 66) := by kernel_rfl
theorem tyk_88 : tyk Tryd.prog 88 = some (false, 1) := by kernel_rfl
theorem zk_88 : zeroK Tryd.prog 88 = some (1, .int .u32 0) := by kernel_rfl
theorem und_88 : Tryd.prog.underlying 88 = some (.int .u32) := by kernel_rfl
theorem tyk_89 : tyk Tryd.prog 89 = some (true, 65) := by kernel_rfl
theorem zk_89 : zeroK Tryd.prog 89 = some (65, .agg [.int .u8 0, .int .u8 0, .int .u8 0, .int .u8 0, .int .u8 0, .int .u8 0, .int .u8 0, .int .u8 0, .int .u8 0, .int .u8 0, .int .u8 0, .int .u8 0, .int .u8 0, .int .u8 0, .int .u8 0, .int .u8 0, .int .u8 0, .int .u8 0, .int .u8 0, .int .u8 0, .int .u8 0, .int .u8 0, .int .u8 0, .int .u8 0, .int .u8 0, .int .u8 0, .int .u8 0, .int .u8 0, .int .u8 0, .int .u8 0, .int .u8 0, .int .u8 0, .int .u8 0, .int .u8 0, .int .u8 0, .int .u8 0, .int .u8 0, .int .u8 0, .int .u8 0, .int .u8 0, .int .u8 0, .int .u8 0, .int .u8 0, .int .u8 0, .int .u8 0, .int .u8 0, .int .u8 0, .int .u8 0, .int .u8 0, .int .u8 0, .int .u8 0, .int .u8 0, .int .u8 0, .int .u8 0, .int .u8 0, .int .u8 0, .int .u8 0, .int .u8 0, .int .u8 0, .int .u8 0, .int .u8 0, .int .u8 0, .int .u8 0, .int .u8 0, .int .u8 0]) := by kernel_rfl
theorem eg_89 : Tryd.prog.eqGuardType Tryd.prog.depth 89 = false := by kernel_rfl
theorem und_89 : Tryd.prog.underlying 89 = some (.array 65 5) := by kernel_rfl
theorem tyk_92 : tyk Tryd.prog 92 = some (true, 32) := by kernel_rfl
theorem zk_92 : zeroK Tryd.prog 92 = some (32, .agg [.int .u8 0, .int .u8 0, .int .u8 0, .int .u8 0, .int .u8 0, .int .u8 0, .int .u8 0, .int .u8 0, .int .u8 0, .int .u8 0, .int .u8 0, .int .u8 0, .int .u8 0, .int .u8 0, .int .u8 0, .int .u8 0, .int .u8 0, .int .u8 0, .int .u8 0, .int .u8 0, .int .u8 0, .int .u8 0, .int .u8 0, .int .u8 0, .int .u8 0, .int .u8 0, .int .u8 0, .int .u8 0, .int .u8 0, .int .u8 0, .int .u8 0, .int .u8 0]) := by kernel_rfl
theorem eg_92 : Tryd.prog.eqGuardType Tryd.prog.depth 92 = false := by kernel_rfl
theorem und_92 : Tryd.prog.underlying 92 = some (.array 32 5) := by kernel_rfl
theorem tyk_93 : tyk Tryd.prog 93 = some (true, 64) := by kernel_rfl
theorem zk_93 : zeroK Tryd.prog 93 = some (64, .agg [.int .u8 0, .int .u8 0, .int .u8 0, .int .u8 0, .int .u8 0, .int .u8 0, .int .u8 0, .int .u8 0, .int .u8 0, .int .u8 0, .int .u8 0, .int .u8 0, .int .u8 0, .int .u8 0, .int .u8 0, .int .u8 0, .int .u8 0, .int .u8 0, .int .u8 0, .int .u8 0, .int .u8 0, .int .u8 0, .int .u8 0, .int .u8 0, .int .u8 0, .int .u8 0, .int .u8 0, .int .u8 0, .int .u8 0, .int .u8 0, .int .u8 0, .int .u8 0, .int .u8 0, .int .u8 0, .int .u8 0, .int .u8 0, .int .u8 0, .int .u8 0, .int .u8 0, .int .u8 0, .int .u8 0, .int .u8 0, .int .u8 0, .int .u8 0, .int .u8 0, .int .u8 0, .int .u8 0, .int .u8 0, .int .u8 0, .int .u8 0, .int .u8 0, .int .u8 0, .int .u8 0, .int .u8 0, .int .u8 0, .int .u8 0, .int .u8 0, .int .u8 0, .int .u8 0, .int .u8 0, .int .u8 0, .int .u8 0, .int .u8 0, .int .u8 0]) := by kernel_rfl
theorem eg_93 : Tryd.prog.eqGuardType Tryd.prog.depth 93 = false := by kernel_rfl
theorem und_93 : Tryd.prog.underlying 93 = some (.array 64 5) := by kernel_rfl
theorem cok_3 : callOK Tryd.prog 3 = true := by kernel_rfl
theorem cok_4 : callOK Tryd.prog 4 = true := by kernel_rfl
theorem cok_5 : callOK Tryd.prog 5 = true := by kernel_rfl
theorem cok_6 : callOK Tryd.prog 6 = true := by kernel_rfl
theorem cok_7 : callOK Tryd.prog 7 = true := by kernel_rfl
theorem cok_8 : callOK Tryd.prog 8 = true := by kernel_rfl
theorem cok_9 : callOK Tryd.prog 9 = true := by kernel_rfl
theorem cok_10 : callOK Tryd.prog 10 = true := by kernel_rfl
theorem cok_11 : callOK Tryd.prog 11 = true := by kernel_rfl
theorem cok_12 : callOK Tryd.prog 12 = true := by kernel_rfl
theorem cok_13 : callOK Tryd.prog 13 = true := by kernel_rfl
theorem cok_14 : callOK Tryd.prog 14 = true := by kernel_rfl
theorem cok_15 : callOK Tryd.prog 15 = true := by kernel_rfl
theorem cok_16 : callOK Tryd.prog 16 = true := by kernel_rfl
theorem cok_17 : callOK Tryd.prog 17 = true := by kernel_rfl
theorem cok_18 : callOK Tryd.prog 18 = true := by kernel_rfl
theorem cok_19 : callOK Tryd.prog 19 = true := by kernel_rfl
theorem cok_20 : callOK Tryd.prog 20 = true := by kernel_rfl
theorem cok_21 : callOK Tryd.prog 21 = true := by kernel_rfl
theorem cok_22 : callOK Tryd.prog 22 = true := by kernel_rfl
theorem cok_23 : callOK Tryd.prog 23 = true := by kernel_rfl
theorem cok_24 : callOK Tryd.prog 24 = true := by kernel_rfl
theorem cok_25 : callOK Tryd.prog 25 = true := by kernel_rfl
theorem cok_26 : callOK Tryd.prog 26 = true := by kernel_rfl
theorem cok_27 : callOK Tryd.prog 27 = true := by kernel_rfl
theorem cok_28 : callOK Tryd.prog 28 = true := by kernel_rfl
theorem cok_29 : callOK Tryd.prog 29 = true := by kernel_rfl
theorem cok_30 : callOK Tryd.prog 30 = true := by kernel_rfl
theorem cok_31 : callOK Tryd.prog 31 = true := by kernel_rfl
theorem cok_32 : callOK Tryd.prog 32 = true := by kernel_rfl
theorem cok_33 : callOK Tryd.prog 33 = true := by kernel_rfl
theorem cok_34 : callOK Tryd.prog 34 = true := by kernel_rfl
theorem cok_35 : callOK Tryd.prog 35 = true := by kernel_rfl
theorem cok_36 : callOK Tryd.prog 36 = true := by kernel_rfl
theorem cok_37 : callOK Tryd.prog 37 = true := by kernel_rfl
theorem cok_38 : callOK Tryd.prog 38 = true := by kernel_rfl
theorem cok_39 : callOK Tryd.prog 39 = true := by kernel_rfl
theorem cok_40 : callOK Tryd.prog 40 = true := by kernel_rfl
theorem cok_41 : callOK Tryd.prog 41 = true := by kernel_rfl
theorem cok_42 : callOK Tryd.prog 42 = true := by kernel_rfl
theorem cok_43 : callOK Tryd.prog 43 = true := by kernel_rfl
theorem cok_44 : callOK Tryd.prog 44 = true := by kernel_rfl
theorem cok_45 : callOK Tryd.prog 45 = true := by kernel_rfl
theorem cok_46 : callOK Tryd.prog 46 = true := by kernel_rfl
theorem cok_47 : callOK Tryd.prog 47 = true := by kernel_rfl
theorem cok_48 : callOK Tryd.prog 48 = true := by kernel_rfl
theorem cok_49 : callOK Tryd.prog 49 = true := by kernel_rfl
theorem cok_50 : callOK Tryd.prog 50 = true := by kernel_rfl
theorem cok_51 : callOK Tryd.prog 51 = true := by kernel_rfl
theorem cok_52 : callOK Tryd.prog 52 = true := by kernel_rfl
theorem cok_53 : callOK Tryd.prog 53 = true := by kernel_rfl
theorem cok_54 : callOK Tryd.prog 54 = true := by kernel_rfl
theorem cok_55 : callOK Tryd.prog 55 = true := by kernel_rfl
theorem cok_56 : callOK Tryd.prog 56 = true := by kernel_rfl
theorem cok_57 : callOK Tryd.prog 57 = true := by kernel_rfl
theorem cok_58 : callOK Tryd.prog 58 = true := by kernel_rfl
theorem cok_59 : callOK Tryd.prog 59 = true := by kernel_rfl
theorem cok_60 : callOK Tryd.prog 60 = true := by kernel_rfl
theorem cok_61 : callOK Tryd.prog 61 = true := by kernel_rfl
theorem cok_62 : callOK Tryd.prog 62 = true := by kernel_rfl
theorem cok_63 : callOK Tryd.prog 63 = true := by kernel_rfl
theorem cok_64 : callOK Tryd.prog 64 = true := by kernel_rfl
theorem cok_65 : callOK Tryd.prog 65 = true := by kernel_rfl
theorem cok_66 : callOK Tryd.prog 66 = true := by kernel_rfl
theorem cok_67 : callOK Tryd.prog 67 = true := by kernel_rfl
theorem cok_68 : callOK Tryd.prog 68 = true := by kernel_rfl
theorem cok_69 : callOK Tryd.prog 69 = true := by kernel_rfl
theorem cok_70 : callOK Tryd.prog 70 = true := by kernel_rfl
theorem cok_97 : callOK Tryd.prog 97 = true := by kernel_rfl
end Go.Proofs.YtlpnicmlgckdnaaDoor
