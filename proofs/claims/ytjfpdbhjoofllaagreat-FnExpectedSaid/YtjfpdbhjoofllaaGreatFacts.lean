/-
  Closed facts on the types and functions of the translation, each by the kernel. No condition.
-/
import Derived.Test.YtjfpdbhjoofllaaGreatProg
import Derived.Test.YtjfpdbhjoofllaaGreatWf
import Derived.KernelRfl
namespace Go.Proofs.YtjfpdbhjoofllaaGreat
open Go.VS
theorem mixed_orders : Tryz.prog.follows .mixedOrders = true := by kernel_rfl
theorem tyk_2 : tyk Tryz.prog 2 = some (false, 1) := by kernel_rfl
theorem zk_2 : zeroK Tryz.prog 2 = some (1, .int .i64 0) := by kernel_rfl
theorem und_2 : Tryz.prog.underlying 2 = some (.int .i64) := by kernel_rfl
theorem tyk_3 : tyk Tryz.prog 3 = some (false, 1) := by kernel_rfl
theorem zk_3 : zeroK Tryz.prog 3 = some (1, .int .i64 0) := by kernel_rfl
theorem und_3 : Tryz.prog.underlying 3 = some (.int .i64) := by kernel_rfl
theorem tyk_4 : tyk Tryz.prog 4 = some (false, 1) := by kernel_rfl
theorem zk_4 : zeroK Tryz.prog 4 = some (1, .bool false) := by kernel_rfl
theorem und_4 : Tryz.prog.underlying 4 = some .bool := by kernel_rfl
theorem tyk_5 : tyk Tryz.prog 5 = some (false, 1) := by kernel_rfl
theorem zk_5 : zeroK Tryz.prog 5 = some (1, .int .u8 0) := by kernel_rfl
theorem und_5 : Tryz.prog.underlying 5 = some (.int .u8) := by kernel_rfl
theorem tyk_9 : tyk Tryz.prog 9 = some (false, 1) := by kernel_rfl
theorem zk_9 : zeroK Tryz.prog 9 = some (1, .str []) := by kernel_rfl
theorem istr_9 : isStr Tryz.prog 9 = true := by kernel_rfl
theorem tyk_12 : tyk Tryz.prog 12 = some (false, 1) := by kernel_rfl
theorem zk_12 : zeroK Tryz.prog 12 = some (1, .int .u64 0) := by kernel_rfl
theorem und_12 : Tryz.prog.underlying 12 = some (.int .u64) := by kernel_rfl
theorem tyk_13 : tyk Tryz.prog 13 = some (true, 2) := by kernel_rfl
theorem zk_13 : zeroK Tryz.prog 13 = some (2, .agg [.str [], .int .u64 0]) := by kernel_rfl
theorem fo_13_0 : fieldOff Tryz.prog 13 0 = some 0 := by kernel_rfl
theorem fo_13_1 : fieldOff Tryz.prog 13 1 = some 1 := by kernel_rfl
theorem tyk_21 : tyk Tryz.prog 21 = some (false, 1) := by kernel_rfl
theorem zk_21 : zeroK Tryz.prog 21 = some (1, .int .i32 0) := by kernel_rfl
theorem und_21 : Tryz.prog.underlying 21 = some (.int .i32) := by kernel_rfl
theorem tyk_22 : tyk Tryz.prog 22 = some (false, 1) := by kernel_rfl
theorem zk_22 : zeroK Tryz.prog 22 = some (1, .nils) := by kernel_rfl
theorem esz_22 : elemSz Tryz.prog 22 = some (5, 1) := by kernel_rfl
theorem eby_22 : elemBy Tryz.prog 22 = true := by kernel_rfl
theorem isl_22 : isSl Tryz.prog 22 = true := by kernel_rfl
theorem usl_22 : Tryz.prog.underlying 22 = some (.slice 5) := by kernel_rfl
theorem tyk_24 : tyk Tryz.prog 24 = some (false, 1) := by kernel_rfl
theorem zk_24 : zeroK Tryz.prog 24 = some (1, .nils) := by kernel_rfl
theorem esz_24 : elemSz Tryz.prog 24 = some (30, 3) := by kernel_rfl
theorem eby_24 : elemBy Tryz.prog 24 = true := by kernel_rfl
theorem isl_24 : isSl Tryz.prog 24 = true := by kernel_rfl
theorem usl_24 : Tryz.prog.underlying 24 = some (.slice 30) := by kernel_rfl
theorem tyk_29 : tyk Tryz.prog 29 = some (true, 3) := by kernel_rfl
theorem zk_29 : zeroK Tryz.prog 29 = some (3, .agg [.int .i64 0, .int .i64 0, .int .i64 0]) := by kernel_rfl
theorem fo_29_0 : fieldOff Tryz.prog 29 0 = some 0 := by kernel_rfl
theorem fo_29_1 : fieldOff Tryz.prog 29 1 = some 1 := by kernel_rfl
theorem fo_29_2 : fieldOff Tryz.prog 29 2 = some 2 := by kernel_rfl
theorem tyk_30 : tyk Tryz.prog 30 = some (true, 3) := by kernel_rfl
theorem zk_30 : zeroK Tryz.prog 30 = some (3, .agg [.int .i64 0, .int .i64 0, .int .i64 0]) := by kernel_rfl
theorem fo_30_0 : fieldOff Tryz.prog 30 0 = some 0 := by kernel_rfl
theorem fo_30_1 : fieldOff Tryz.prog 30 1 = some 1 := by kernel_rfl
theorem fo_30_2 : fieldOff Tryz.prog 30 2 = some 2 := by kernel_rfl
theorem fe_30 : flatStruct Tryz.prog 30 = some [0, 0, 0] := by kernel_rfl
theorem pl_30 : placesK Tryz.prog 30 = some [(0, 1), (1, 1), (2, 1)] := by kernel_rfl
theorem tyk_31 : tyk Tryz.prog 31 = some (false, 1) := by kernel_rfl
theorem zk_31 : zeroK Tryz.prog 31 = some (1, .nils) := by kernel_rfl
theorem esz_31 : elemSz Tryz.prog 31 = some (43, 4) := by kernel_rfl
theorem eby_31 : elemBy Tryz.prog 31 = true := by kernel_rfl
theorem isl_31 : isSl Tryz.prog 31 = true := by kernel_rfl
theorem usl_31 : Tryz.prog.underlying 31 = some (.slice 43) := by kernel_rfl
theorem tyk_35 : tyk Tryz.prog 35 = some (false, 1) := by kernel_rfl
theorem zk_35 : zeroK Tryz.prog 35 = some (1, .nils) := by kernel_rfl
theorem esz_35 : elemSz Tryz.prog 35 = some (3, 1) := by kernel_rfl
theorem eby_35 : elemBy Tryz.prog 35 = true := by kernel_rfl
theorem isl_35 : isSl Tryz.prog 35 = true := by kernel_rfl
theorem usl_35 : Tryz.prog.underlying 35 = some (.slice 3) := by kernel_rfl
theorem tyk_42 : tyk Tryz.prog 42 = some (true, 4) := by kernel_rfl
theorem zk_42 : zeroK Tryz.prog 42 = some (4, .agg [.int .i64 0, .int .i64 0, .int .i64 0, .int .i64 0]) := by kernel_rfl
theorem fo_42_0 : fieldOff Tryz.prog 42 0 = some 0 := by kernel_rfl
theorem fo_42_1 : fieldOff Tryz.prog 42 1 = some 1 := by kernel_rfl
theorem fo_42_2 : fieldOff Tryz.prog 42 2 = some 2 := by kernel_rfl
theorem fo_42_3 : fieldOff Tryz.prog 42 3 = some 3 := by kernel_rfl
theorem tyk_43 : tyk Tryz.prog 43 = some (true, 4) := by kernel_rfl
theorem zk_43 : zeroK Tryz.prog 43 = some (4, .agg [.int .i64 0, .int .i64 0, .int .i64 0, .int .i64 0]) := by kernel_rfl
theorem fo_43_0 : fieldOff Tryz.prog 43 0 = some 0 := by kernel_rfl
theorem fo_43_1 : fieldOff Tryz.prog 43 1 = some 1 := by kernel_rfl
theorem fo_43_2 : fieldOff Tryz.prog 43 2 = some 2 := by kernel_rfl
theorem fo_43_3 : fieldOff Tryz.prog 43 3 = some 3 := by kernel_rfl
theorem fe_43 : flatStruct Tryz.prog 43 = some [0, 0, 0, 0] := by kernel_rfl
theorem pl_43 : placesK Tryz.prog 43 = some [(0, 1), (1, 1), (2, 1), (3, 1)] := by kernel_rfl
theorem tyk_45 : tyk Tryz.prog 45 = some (false, 1) := by kernel_rfl
theorem zk_45 : zeroK Tryz.prog 45 = some (1, .nils) := by kernel_rfl
theorem esz_45 : elemSz Tryz.prog 45 = some (55, 2) := by kernel_rfl
theorem eby_45 : elemBy Tryz.prog 45 = true := by kernel_rfl
theorem isl_45 : isSl Tryz.prog 45 = true := by kernel_rfl
theorem usl_45 : Tryz.prog.underlying 45 = some (.slice 55) := by kernel_rfl
theorem tyk_49 : tyk Tryz.prog 49 = some (false, 1) := by kernel_rfl
theorem zk_49 : zeroK Tryz.prog 49 = some (1, .nils) := by kernel_rfl
theorem esz_49 : elemSz Tryz.prog 49 = some (93, 2) := by kernel_rfl
theorem eby_49 : elemBy Tryz.prog 49 = true := by kernel_rfl
theorem isl_49 : isSl Tryz.prog 49 = true := by kernel_rfl
theorem usl_49 : Tryz.prog.underlying 49 = some (.slice 93) := by kernel_rfl
theorem tyk_50 : tyk Tryz.prog 50 = some (true, 4) := by kernel_rfl
theorem zk_50 : zeroK Tryz.prog 50 = some (4, .agg [.int .i64 0, .int .i64 0, .int .i64 0, .nils]) := by kernel_rfl
theorem fo_50_0 : fieldOff Tryz.prog 50 0 = some 0 := by kernel_rfl
theorem fo_50_1 : fieldOff Tryz.prog 50 1 = some 1 := by kernel_rfl
theorem fo_50_2 : fieldOff Tryz.prog 50 2 = some 2 := by kernel_rfl
theorem fo_50_3 : fieldOff Tryz.prog 50 3 = some 3 := by kernel_rfl
theorem tyk_51 : tyk Tryz.prog 51 = some (true, 4) := by kernel_rfl
theorem zk_51 : zeroK Tryz.prog 51 = some (4, .agg [.int .i64 0, .int .i64 0, .int .i64 0, .nils]) := by kernel_rfl
theorem fo_51_0 : fieldOff Tryz.prog 51 0 = some 0 := by kernel_rfl
theorem fo_51_1 : fieldOff Tryz.prog 51 1 = some 1 := by kernel_rfl
theorem fo_51_2 : fieldOff Tryz.prog 51 2 = some 2 := by kernel_rfl
theorem fo_51_3 : fieldOff Tryz.prog 51 3 = some 3 := by kernel_rfl
theorem pl_51 : placesK Tryz.prog 51 = some [(0, 1), (1, 1), (2, 1), (3, 1)] := by kernel_rfl
theorem tyk_55 : tyk Tryz.prog 55 = some (true, 2) := by kernel_rfl
theorem zk_55 : zeroK Tryz.prog 55 = some (2, .agg [.int .i64 0, .int .i64 0]) := by kernel_rfl
theorem eg_55 : Tryz.prog.eqGuardType Tryz.prog.depth 55 = false := by kernel_rfl
theorem und_55 : Tryz.prog.underlying 55 = some (.array 2 3) := by kernel_rfl
theorem tyk_56 : tyk Tryz.prog 56 = some (false, 1) := by kernel_rfl
theorem tyk_57 : tyk Tryz.prog 57 = some (false, 1) := by kernel_rfl
theorem zk_57 : zeroK Tryz.prog 57 = some (1, .int .u64 0) := by kernel_rfl
theorem und_57 : Tryz.prog.underlying 57 = some (.int .u64) := by kernel_rfl
theorem tyk_58 : tyk Tryz.prog 58 = some (true, 3) := by kernel_rfl
theorem zk_58 : zeroK Tryz.prog 58 = some (3, .agg [.nils, .int .i64 0, .int .u64 0]) := by kernel_rfl
theorem fo_58_0 : fieldOff Tryz.prog 58 0 = some 0 := by kernel_rfl
theorem fo_58_1 : fieldOff Tryz.prog 58 1 = some 1 := by kernel_rfl
theorem fo_58_2 : fieldOff Tryz.prog 58 2 = some 2 := by kernel_rfl
theorem tyk_59 : tyk Tryz.prog 59 = some (true, 3) := by kernel_rfl
theorem zk_59 : zeroK Tryz.prog 59 = some (3, .agg [.nils, .int .i64 0, .int .u64 0]) := by kernel_rfl
theorem fo_59_0 : fieldOff Tryz.prog 59 0 = some 0 := by kernel_rfl
theorem fo_59_1 : fieldOff Tryz.prog 59 1 = some 1 := by kernel_rfl
theorem fo_59_2 : fieldOff Tryz.prog 59 2 = some 2 := by kernel_rfl
theorem pl_59 : placesK Tryz.prog 59 = some [(0, 1), (1, 1), (2, 1)] := by kernel_rfl
theorem tyk_90 : tyk Tryz.prog 90 = some (false, 1) := by kernel_rfl
theorem zk_90 : zeroK Tryz.prog 90 = some (1, .int .u64 0) := by kernel_rfl
theorem und_90 : Tryz.prog.underlying 90 = some (.int .u64) := by kernel_rfl
theorem tyk_92 : tyk Tryz.prog 92 = some (true, 2) := by kernel_rfl
theorem zk_92 : zeroK Tryz.prog 92 = some (2, .agg [.int .i64 0, .int .i64 0]) := by kernel_rfl
theorem fo_92_0 : fieldOff Tryz.prog 92 0 = some 0 := by kernel_rfl
theorem fo_92_1 : fieldOff Tryz.prog 92 1 = some 1 := by kernel_rfl
theorem tyk_93 : tyk Tryz.prog 93 = some (true, 2) := by kernel_rfl
theorem zk_93 : zeroK Tryz.prog 93 = some (2, .agg [.int .i64 0, .int .i64 0]) := by kernel_rfl
theorem fo_93_0 : fieldOff Tryz.prog 93 0 = some 0 := by kernel_rfl
theorem fo_93_1 : fieldOff Tryz.prog 93 1 = some 1 := by kernel_rfl
theorem fe_93 : flatStruct Tryz.prog 93 = some [0, 0] := by kernel_rfl
theorem pl_93 : placesK Tryz.prog 93 = some [(0, 1), (1, 1)] := by kernel_rfl
theorem tyk_101 : tyk Tryz.prog 101 = some (false, 1) := by kernel_rfl
theorem zk_101 : zeroK Tryz.prog 101 = some (1, .int .i64 0) := by kernel_rfl
theorem und_101 : Tryz.prog.underlying 101 = some (.int .i64) := by kernel_rfl
theorem tyk_109 : tyk Tryz.prog 109 = some (false, 1) := by kernel_rfl
theorem zk_109 : zeroK Tryz.prog 109 = some (1, .int .u32 0) := by kernel_rfl
theorem und_109 : Tryz.prog.underlying 109 = some (.int .u32) := by kernel_rfl
theorem tyk_115 : tyk Tryz.prog 115 = some (false, 1) := by kernel_rfl
theorem zk_115 : zeroK Tryz.prog 115 = some (1, .int .u64 0) := by kernel_rfl
theorem und_115 : Tryz.prog.underlying 115 = some (.int .u64) := by kernel_rfl
theorem tyk_119 : tyk Tryz.prog 119 = some (false, 1) := by kernel_rfl
theorem tyk_125 : tyk Tryz.prog 125 = some (false, 1) := by kernel_rfl
theorem tyk_139 : tyk Tryz.prog 139 = some (false, 1) := by kernel_rfl
theorem cok_3 : callOK Tryz.prog 3 = true := by kernel_rfl
theorem cok_4 : callOK Tryz.prog 4 = true := by kernel_rfl
theorem cok_5 : callOK Tryz.prog 5 = true := by kernel_rfl
theorem cok_6 : callOK Tryz.prog 6 = true := by kernel_rfl
theorem cok_7 : callOK Tryz.prog 7 = true := by kernel_rfl
theorem cok_8 : callOK Tryz.prog 8 = true := by kernel_rfl
theorem cok_9 : callOK Tryz.prog 9 = true := by kernel_rfl
theorem cok_10 : callOK Tryz.prog 10 = true := by kernel_rfl
theorem cok_11 : callOK Tryz.prog 11 = true := by kernel_rfl
theorem cok_12 : callOK Tryz.prog 12 = true := by kernel_rfl
theorem cok_13 : callOK Tryz.prog 13 = true := by kernel_rfl
theorem cok_14 : callOK Tryz.prog 14 = true := by kernel_rfl
theorem cok_15 : callOK Tryz.prog 15 = true := by kernel_rfl
theorem cok_16 : callOK Tryz.prog 16 = true := by kernel_rfl
theorem cok_17 : callOK Tryz.prog 17 = true := by kernel_rfl
theorem cok_18 : callOK Tryz.prog 18 = true := by kernel_rfl
theorem cok_19 : callOK Tryz.prog 19 = true := by kernel_rfl
theorem cok_20 : callOK Tryz.prog 20 = true := by kernel_rfl
theorem cok_21 : callOK Tryz.prog 21 = true := by kernel_rfl
theorem cok_22 : callOK Tryz.prog 22 = true := by kernel_rfl
theorem cok_23 : callOK Tryz.prog 23 = true := by kernel_rfl
theorem cok_24 : callOK Tryz.prog 24 = true := by kernel_rfl
theorem cok_25 : callOK Tryz.prog 25 = true := by kernel_rfl
theorem cok_26 : callOK Tryz.prog 26 = true := by kernel_rfl
theorem cok_27 : callOK Tryz.prog 27 = true := by kernel_rfl
theorem cok_28 : callOK Tryz.prog 28 = true := by kernel_rfl
theorem cok_29 : callOK Tryz.prog 29 = true := by kernel_rfl
theorem cok_30 : callOK Tryz.prog 30 = true := by kernel_rfl
theorem cok_31 : callOK Tryz.prog 31 = true := by kernel_rfl
theorem cok_32 : callOK Tryz.prog 32 = true := by kernel_rfl
theorem cok_33 : callOK Tryz.prog 33 = true := by kernel_rfl
theorem cok_34 : callOK Tryz.prog 34 = true := by kernel_rfl
theorem cok_35 : callOK Tryz.prog 35 = true := by kernel_rfl
theorem cok_36 : callOK Tryz.prog 36 = true := by kernel_rfl
theorem cok_37 : callOK Tryz.prog 37 = true := by kernel_rfl
theorem cok_38 : callOK Tryz.prog 38 = true := by kernel_rfl
theorem cok_39 : callOK Tryz.prog 39 = true := by kernel_rfl
theorem cok_40 : callOK Tryz.prog 40 = true := by kernel_rfl
theorem cok_41 : callOK Tryz.prog 41 = true := by kernel_rfl
theorem cok_42 : callOK Tryz.prog 42 = true := by kernel_rfl
theorem cok_43 : callOK Tryz.prog 43 = true := by kernel_rfl
theorem cok_44 : callOK Tryz.prog 44 = true := by kernel_rfl
theorem cok_45 : callOK Tryz.prog 45 = true := by kernel_rfl
theorem cok_46 : callOK Tryz.prog 46 = true := by kernel_rfl
theorem cok_47 : callOK Tryz.prog 47 = true := by kernel_rfl
theorem cok_48 : callOK Tryz.prog 48 = true := by kernel_rfl
theorem cok_49 : callOK Tryz.prog 49 = true := by kernel_rfl
theorem cok_50 : callOK Tryz.prog 50 = true := by kernel_rfl
theorem cok_51 : callOK Tryz.prog 51 = true := by kernel_rfl
theorem cok_52 : callOK Tryz.prog 52 = true := by kernel_rfl
theorem cok_53 : callOK Tryz.prog 53 = true := by kernel_rfl
theorem cok_54 : callOK Tryz.prog 54 = true := by kernel_rfl
theorem cok_55 : callOK Tryz.prog 55 = true := by kernel_rfl
theorem cok_56 : callOK Tryz.prog 56 = true := by kernel_rfl
theorem cok_57 : callOK Tryz.prog 57 = true := by kernel_rfl
theorem cok_58 : callOK Tryz.prog 58 = true := by kernel_rfl
theorem cok_59 : callOK Tryz.prog 59 = true := by kernel_rfl
theorem cok_60 : callOK Tryz.prog 60 = true := by kernel_rfl
theorem cok_61 : callOK Tryz.prog 61 = true := by kernel_rfl
theorem cok_62 : callOK Tryz.prog 62 = true := by kernel_rfl
theorem cok_63 : callOK Tryz.prog 63 = true := by kernel_rfl
theorem cok_64 : callOK Tryz.prog 64 = true := by kernel_rfl
theorem cok_65 : callOK Tryz.prog 65 = true := by kernel_rfl
theorem cok_66 : callOK Tryz.prog 66 = true := by kernel_rfl
theorem cok_67 : callOK Tryz.prog 67 = true := by kernel_rfl
theorem cok_68 : callOK Tryz.prog 68 = true := by kernel_rfl
theorem cok_69 : callOK Tryz.prog 69 = true := by kernel_rfl
theorem cok_70 : callOK Tryz.prog 70 = true := by kernel_rfl
theorem cok_71 : callOK Tryz.prog 71 = true := by kernel_rfl
theorem cok_72 : callOK Tryz.prog 72 = true := by kernel_rfl
theorem cok_73 : callOK Tryz.prog 73 = true := by kernel_rfl
theorem cok_74 : callOK Tryz.prog 74 = true := by kernel_rfl
theorem cok_75 : callOK Tryz.prog 75 = true := by kernel_rfl
theorem cok_76 : callOK Tryz.prog 76 = true := by kernel_rfl
theorem cok_77 : callOK Tryz.prog 77 = true := by kernel_rfl
theorem cok_78 : callOK Tryz.prog 78 = true := by kernel_rfl
theorem cok_79 : callOK Tryz.prog 79 = true := by kernel_rfl
theorem cok_80 : callOK Tryz.prog 80 = true := by kernel_rfl
theorem cok_81 : callOK Tryz.prog 81 = true := by kernel_rfl
theorem cok_82 : callOK Tryz.prog 82 = true := by kernel_rfl
theorem cok_83 : callOK Tryz.prog 83 = true := by kernel_rfl
theorem cok_84 : callOK Tryz.prog 84 = true := by kernel_rfl
theorem cok_85 : callOK Tryz.prog 85 = true := by kernel_rfl
theorem cok_86 : callOK Tryz.prog 86 = true := by kernel_rfl
theorem cok_87 : callOK Tryz.prog 87 = true := by kernel_rfl
theorem cok_88 : callOK Tryz.prog 88 = true := by kernel_rfl
theorem cok_89 : callOK Tryz.prog 89 = true := by kernel_rfl
theorem cok_90 : callOK Tryz.prog 90 = true := by kernel_rfl
theorem cok_91 : callOK Tryz.prog 91 = true := by kernel_rfl
theorem cok_92 : callOK Tryz.prog 92 = true := by kernel_rfl
theorem cok_93 : callOK Tryz.prog 93 = true := by kernel_rfl
theorem cok_94 : callOK Tryz.prog 94 = true := by kernel_rfl
theorem cok_95 : callOK Tryz.prog 95 = true := by kernel_rfl
theorem cok_96 : callOK Tryz.prog 96 = true := by kernel_rfl
theorem cok_97 : callOK Tryz.prog 97 = true := by kernel_rfl
theorem cok_98 : callOK Tryz.prog 98 = true := by kernel_rfl
theorem cok_99 : callOK Tryz.prog 99 = true := by kernel_rfl
theorem cok_100 : callOK Tryz.prog 100 = true := by kernel_rfl
theorem cok_101 : callOK Tryz.prog 101 = true := by kernel_rfl
theorem cok_102 : callOK Tryz.prog 102 = true := by kernel_rfl
theorem cok_103 : callOK Tryz.prog 103 = true := by kernel_rfl
theorem cok_104 : callOK Tryz.prog 104 = true := by kernel_rfl
end Go.Proofs.YtjfpdbhjoofllaaGreat
