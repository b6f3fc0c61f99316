/-
  Closed facts on the types and functions of the translation, each by the kernel. No condition.
-/
import Derived.Test.YtjfpdbhjoofllaaProg
import Derived.Test.YtjfpdbhjoofllaaWf
import Derived.KernelRfl
namespace Go.Proofs.Ytjfpdbhjoofllaa
open Go.VS
theorem mixed_orders : Try.prog.follows .mixedOrders = true := by kernel_rfl
theorem tyk_2 : tyk Try.prog 2 = some (false, 1) := by kernel_rfl
theorem zk_2 : zeroK Try.prog 2 = some (1, .int .i64 0) := by kernel_rfl
theorem und_2 : Try.prog.underlying 2 = some (.int .i64) := by kernel_rfl
theorem tyk_3 : tyk Try.prog 3 = some (false, 1) := by kernel_rfl
theorem zk_3 : zeroK Try.prog 3 = some (1, .int .i64 0) := by kernel_rfl
theorem und_3 : Try.prog.underlying 3 = some (.int .i64) := by kernel_rfl
theorem tyk_4 : tyk Try.prog 4 = some (false, 1) := by kernel_rfl
theorem zk_4 : zeroK Try.prog 4 = some (1, .bool false) := by kernel_rfl
theorem und_4 : Try.prog.underlying 4 = some .bool := by kernel_rfl
theorem tyk_5 : tyk Try.prog 5 = some (false, 1) := by kernel_rfl
theorem zk_5 : zeroK Try.prog 5 = some (1, .int .u8 0) := by kernel_rfl
theorem und_5 : Try.prog.underlying 5 = some (.int .u8) := by kernel_rfl
theorem tyk_9 : tyk Try.prog 9 = some (false, 1) := by kernel_rfl
theorem zk_9 : zeroK Try.prog 9 = some (1, .str []) := by kernel_rfl
theorem istr_9 : isStr Try.prog 9 = true := by kernel_rfl
theorem tyk_12 : tyk Try.prog 12 = some (false, 1) := by kernel_rfl
theorem zk_12 : zeroK Try.prog 12 = some (1, .int .u64 0) := by kernel_rfl
theorem und_12 : Try.prog.underlying 12 = some (.int .u64) := by kernel_rfl
theorem tyk_13 : tyk Try.prog 13 = some (true, 2) := by kernel_rfl
theorem zk_13 : zeroK Try.prog 13 = some (2, .agg [.str [], .int .u64 0]) := by kernel_rfl
theorem fo_13_0 : fieldOff Try.prog 13 0 = some 0 := by kernel_rfl
theorem fo_13_1 : fieldOff Try.prog 13 1 = some 1 := by kernel_rfl
theorem tyk_21 : tyk Try.prog 21 = some (false, 1) := by kernel_rfl
theorem zk_21 : zeroK Try.prog 21 = some (1, .int .i32 0) := by kernel_rfl
theorem und_21 : Try.prog.underlying 21 = some (.int .i32) := by kernel_rfl
theorem tyk_22 : tyk Try.prog 22 = some (false, 1) := by kernel_rfl
theorem zk_22 : zeroK Try.prog 22 = some (1, .nils) := by kernel_rfl
theorem esz_22 : elemSz Try.prog 22 = some (5, 1) := by kernel_rfl
theorem eby_22 : elemBy Try.prog 22 = true := by kernel_rfl
theorem isl_22 : isSl Try.prog 22 = true := by kernel_rfl
theorem usl_22 : Try.prog.underlying 22 = some (.slice 5) := by kernel_rfl
theorem tyk_24 : tyk Try.prog 24 = some (false, 1) := by kernel_rfl
theorem zk_24 : zeroK Try.prog 24 = some (1, .nils) := by kernel_rfl
theorem esz_24 : elemSz Try.prog 24 = some (84, 2) := by kernel_rfl
theorem eby_24 : elemBy Try.prog 24 = true := by kernel_rfl
theorem isl_24 : isSl Try.prog 24 = true := by kernel_rfl
theorem usl_24 : Try.prog.underlying 24 = some (.slice 84) := by kernel_rfl
theorem tyk_25 : tyk Try.prog 25 = some (true, 5) := by kernel_rfl
theorem zk_25 : zeroK Try.prog 25 = some (5, .agg [.int .i64 0, .int .i64 0, .int .i64 0, .int .i64 0, .nils]) := by kernel_rfl
theorem fo_25_0 : fieldOff Try.prog 25 0 = some 0 := by kernel_rfl
theorem fo_25_1 : fieldOff Try.prog 25 1 = some 1 := by kernel_rfl
theorem fo_25_2 : fieldOff Try.prog 25 2 = some 2 := by kernel_rfl
theorem fo_25_3 : fieldOff Try.prog 25 3 = some 3 := by kernel_rfl
theorem fo_25_4 : fieldOff Try.prog 25 4 = some 4 := by kernel_rfl
theorem tyk_26 : tyk Try.prog 26 = some (true, 5) := by kernel_rfl
theorem zk_26 : zeroK Try.prog 26 = some (5, .agg [.int .i64 0, .int .i64 0, .int .i64 0, .int .i64 0, .nils]) := by kernel_rfl
theorem fo_26_0 : fieldOff Try.prog 26 0 = some 0 := by kernel_rfl
theorem fo_26_1 : fieldOff Try.prog 26 1 = some 1 := by kernel_rfl
theorem fo_26_2 : fieldOff Try.prog 26 2 = some 2 := by kernel_rfl
theorem fo_26_3 : fieldOff Try.prog 26 3 = some 3 := by kernel_rfl
theorem fo_26_4 : fieldOff Try.prog 26 4 = some 4 := by kernel_rfl
theorem pl_26 : placesK Try.prog 26 = some [(0, 1), (1, 1), (2, 1), (3, 1), (4, 1)] := by kernel_rfl
theorem tyk_42 : tyk Try.prog 42 = some (false, 1) := by kernel_rfl
theorem zk_42 : zeroK Try.prog 42 = some (1, .nils) := by kernel_rfl
theorem esz_42 : elemSz Try.prog 42 = some (46, 2) := by kernel_rfl
theorem eby_42 : elemBy Try.prog 42 = true := by kernel_rfl
theorem isl_42 : isSl Try.prog 42 = true := by kernel_rfl
theorem usl_42 : Try.prog.underlying 42 = some (.slice 46) := by kernel_rfl
theorem tyk_43 : tyk Try.prog 43 = some (true, 4) := by kernel_rfl
theorem zk_43 : zeroK Try.prog 43 = some (4, .agg [.int .i64 0, .int .i64 0, .int .i64 0, .nils]) := by kernel_rfl
theorem fo_43_0 : fieldOff Try.prog 43 0 = some 0 := by kernel_rfl
theorem fo_43_1 : fieldOff Try.prog 43 1 = some 1 := by kernel_rfl
theorem fo_43_2 : fieldOff Try.prog 43 2 = some 2 := by kernel_rfl
theorem fo_43_3 : fieldOff Try.prog 43 3 = some 3 := by kernel_rfl
theorem tyk_44 : tyk Try.prog 44 = some (true, 4) := by kernel_rfl
theorem zk_44 : zeroK Try.prog 44 = some (4, .agg [.int .i64 0, .int .i64 0, .int .i64 0, .nils]) := by kernel_rfl
theorem fo_44_0 : fieldOff Try.prog 44 0 = some 0 := by kernel_rfl
theorem fo_44_1 : fieldOff Try.prog 44 1 = some 1 := by kernel_rfl
theorem fo_44_2 : fieldOff Try.prog 44 2 = some 2 := by kernel_rfl
theorem fo_44_3 : fieldOff Try.prog 44 3 = some 3 := by kernel_rfl
theorem pl_44 : placesK Try.prog 44 = some [(0, 1), (1, 1), (2, 1), (3, 1)] := by kernel_rfl
theorem tyk_45 : tyk Try.prog 45 = some (true, 2) := by kernel_rfl
theorem zk_45 : zeroK Try.prog 45 = some (2, .agg [.int .i64 0, .int .i64 0]) := by kernel_rfl
theorem fo_45_0 : fieldOff Try.prog 45 0 = some 0 := by kernel_rfl
theorem fo_45_1 : fieldOff Try.prog 45 1 = some 1 := by kernel_rfl
theorem tyk_46 : tyk Try.prog 46 = some (true, 2) := by kernel_rfl
theorem zk_46 : zeroK Try.prog 46 = some (2, .agg [.int .i64 0, .int .i64 0]) := by kernel_rfl
theorem fo_46_0 : fieldOff Try.prog 46 0 = some 0 := by kernel_rfl
theorem fo_46_1 : fieldOff Try.prog 46 1 = some 1 := by kernel_rfl
theorem fe_46 : flatStruct Try.prog 46 = some [0, 0] := by kernel_rfl
theorem pl_46 : placesK Try.prog 46 = some [(0, 1), (1, 1)] := by kernel_rfl
theorem tyk_57 : tyk Try.prog 57 = some (false, 1) := by kernel_rfl
theorem zk_57 : zeroK Try.prog 57 = some (1, .nils) := by kernel_rfl
theorem esz_57 : elemSz Try.prog 57 = some (60, 2) := by kernel_rfl
theorem eby_57 : elemBy Try.prog 57 = true := by kernel_rfl
theorem isl_57 : isSl Try.prog 57 = true := by kernel_rfl
theorem usl_57 : Try.prog.underlying 57 = some (.slice 60) := by kernel_rfl
theorem tyk_58 : tyk Try.prog 58 = some (false, 1) := by kernel_rfl
theorem zk_58 : zeroK Try.prog 58 = some (1, .nils) := by kernel_rfl
theorem esz_58 : elemSz Try.prog 58 = some (109, 4) := by kernel_rfl
theorem eby_58 : elemBy Try.prog 58 = true := by kernel_rfl
theorem isl_58 : isSl Try.prog 58 = true := by kernel_rfl
theorem usl_58 : Try.prog.underlying 58 = some (.slice 109) := by kernel_rfl
theorem tyk_59 : tyk Try.prog 59 = some (true, 2) := by kernel_rfl
theorem zk_59 : zeroK Try.prog 59 = some (2, .agg [.int .i64 0, .nils]) := by kernel_rfl
theorem fo_59_0 : fieldOff Try.prog 59 0 = some 0 := by kernel_rfl
theorem fo_59_1 : fieldOff Try.prog 59 1 = some 1 := by kernel_rfl
theorem tyk_60 : tyk Try.prog 60 = some (true, 2) := by kernel_rfl
theorem zk_60 : zeroK Try.prog 60 = some (2, .agg [.int .i64 0, .nils]) := by kernel_rfl
theorem fo_60_0 : fieldOff Try.prog 60 0 = some 0 := by kernel_rfl
theorem fo_60_1 : fieldOff Try.prog 60 1 = some 1 := by kernel_rfl
theorem pl_60 : placesK Try.prog 60 = some [(0, 1), (1, 1)] := by kernel_rfl
theorem tyk_69 : tyk Try.prog 69 = some (false, 1) := by kernel_rfl
theorem zk_69 : zeroK Try.prog 69 = some (1, .nils) := by kernel_rfl
theorem esz_69 : elemSz Try.prog 69 = some (3, 1) := by kernel_rfl
theorem eby_69 : elemBy Try.prog 69 = true := by kernel_rfl
theorem isl_69 : isSl Try.prog 69 = true := by kernel_rfl
theorem usl_69 : Try.prog.underlying 69 = some (.slice 3) := by kernel_rfl
theorem tyk_77 : tyk Try.prog 77 = some (false, 1) := by kernel_rfl
theorem tyk_78 : tyk Try.prog 78 = some (false, 1) := by kernel_rfl
theorem zk_78 : zeroK Try.prog 78 = some (1, .int .u64 0) := by kernel_rfl
theorem und_78 : Try.prog.underlying 78 = some (.int .u64) := by kernel_rfl
theorem tyk_79 : tyk Try.prog 79 = some (true, 3) := by kernel_rfl
theorem zk_79 : zeroK Try.prog 79 = some (3, .agg [.nils, .int .i64 0, .int .u64 0]) := by kernel_rfl
theorem fo_79_0 : fieldOff Try.prog 79 0 = some 0 := by kernel_rfl
theorem fo_79_1 : fieldOff Try.prog 79 1 = some 1 := by kernel_rfl
theorem fo_79_2 : fieldOff Try.prog 79 2 = some 2 := by kernel_rfl
theorem tyk_80 : tyk Try.prog 80 = some (true, 3) := by kernel_rfl
theorem zk_80 : zeroK Try.prog 80 = some (3, .agg [.nils, .int .i64 0, .int .u64 0]) := by kernel_rfl
theorem fo_80_0 : fieldOff Try.prog 80 0 = some 0 := by kernel_rfl
theorem fo_80_1 : fieldOff Try.prog 80 1 = some 1 := by kernel_rfl
theorem fo_80_2 : fieldOff Try.prog 80 2 = some 2 := by kernel_rfl
theorem pl_80 : placesK Try.prog 80 = some [(0, 1), (1, 1), (2, 1)] := by kernel_rfl
theorem tyk_84 : tyk Try.prog 84 = some (true, 2) := by kernel_rfl
theorem zk_84 : zeroK Try.prog 84 = some (2, .agg [.int .i64 0, .int .i64 0]) := by kernel_rfl
theorem eg_84 : Try.prog.eqGuardType Try.prog.depth 84 = false := by kernel_rfl
theorem und_84 : Try.prog.underlying 84 = some (.array 2 3) := by kernel_rfl
theorem tyk_108 : tyk Try.prog 108 = some (true, 4) := by kernel_rfl
theorem zk_108 : zeroK Try.prog 108 = some (4, .agg [.int .i64 0, .int .i64 0, .int .i64 0, .int .i64 0]) := by kernel_rfl
theorem fo_108_0 : fieldOff Try.prog 108 0 = some 0 := by kernel_rfl
theorem fo_108_1 : fieldOff Try.prog 108 1 = some 1 := by kernel_rfl
theorem fo_108_2 : fieldOff Try.prog 108 2 = some 2 := by kernel_rfl
theorem fo_108_3 : fieldOff Try.prog 108 3 = some 3 := by kernel_rfl
theorem tyk_109 : tyk Try.prog 109 = some (true, 4) := by kernel_rfl
theorem zk_109 : zeroK Try.prog 109 = some (4, .agg [.int .i64 0, .int .i64 0, .int .i64 0, .int .i64 0]) := by kernel_rfl
theorem fo_109_0 : fieldOff Try.prog 109 0 = some 0 := by kernel_rfl
theorem fo_109_1 : fieldOff Try.prog 109 1 = some 1 := by kernel_rfl
theorem fo_109_2 : fieldOff Try.prog 109 2 = some 2 := by kernel_rfl
theorem fo_109_3 : fieldOff Try.prog 109 3 = some 3 := by kernel_rfl
theorem fe_109 : flatStruct Try.prog 109 = some [0, 0, 0, 0] := by kernel_rfl
theorem pl_109 : placesK Try.prog 109 = some [(0, 1), (1, 1), (2, 1), (3, 1)] := by kernel_rfl
theorem tyk_129 : tyk Try.prog 129 = some (false, 1) := by kernel_rfl
theorem zk_129 : zeroK Try.prog 129 = some (1, .int .u64 0) := by kernel_rfl
theorem und_129 : Try.prog.underlying 129 = some (.int .u64) := by kernel_rfl
theorem tyk_145 : tyk Try.prog 145 = some (false, 1) := by kernel_rfl
theorem zk_145 : zeroK Try.prog 145 = some (1, .int .i64 0) := by kernel_rfl
theorem und_145 : Try.prog.underlying 145 = some (.int .i64) := by kernel_rfl
theorem tyk_152 : tyk Try.prog 152 = some (false, 1) := by kernel_rfl
theorem zk_152 : zeroK Try.prog 152 = some (1, .int .u32 0) := by kernel_rfl
theorem und_152 : Try.prog.underlying 152 = some (.int .u32) := by kernel_rfl
theorem tyk_159 : tyk Try.prog 159 = some (false, 1) := by kernel_rfl
theorem zk_159 : zeroK Try.prog 159 = some (1, .int .u64 0) := by kernel_rfl
theorem und_159 : Try.prog.underlying 159 = some (.int .u64) := by kernel_rfl
theorem tyk_163 : tyk Try.prog 163 = some (false, 1) := by kernel_rfl
theorem tyk_166 : tyk Try.prog 166 = some (false, 1) := by kernel_rfl
theorem tyk_178 : tyk Try.prog 178 = some (false, 1) := by kernel_rfl
theorem cok_3 : callOK Try.prog 3 = true := by kernel_rfl
theorem cok_4 : callOK Try.prog 4 = true := by kernel_rfl
theorem cok_5 : callOK Try.prog 5 = true := by kernel_rfl
theorem cok_6 : callOK Try.prog 6 = true := by kernel_rfl
theorem cok_7 : callOK Try.prog 7 = true := by kernel_rfl
theorem cok_8 : callOK Try.prog 8 = true := by kernel_rfl
theorem cok_9 : callOK Try.prog 9 = true := by kernel_rfl
theorem cok_10 : callOK Try.prog 10 = true := by kernel_rfl
theorem cok_11 : callOK Try.prog 11 = true := by kernel_rfl
theorem cok_12 : callOK Try.prog 12 = true := by kernel_rfl
theorem cok_13 : callOK Try.prog 13 = true := by kernel_rfl
theorem cok_14 : callOK Try.prog 14 = true := by kernel_rfl
theorem cok_15 : callOK Try.prog 15 = true := by kernel_rfl
theorem cok_16 : callOK Try.prog 16 = true := by kernel_rfl
theorem cok_17 : callOK Try.prog 17 = true := by kernel_rfl
theorem cok_18 : callOK Try.prog 18 = true := by kernel_rfl
theorem cok_19 : callOK Try.prog 19 = true := by kernel_rfl
theorem cok_20 : callOK Try.prog 20 = true := by kernel_rfl
theorem cok_21 : callOK Try.prog 21 = true := by kernel_rfl
theorem cok_22 : callOK Try.prog 22 = true := by kernel_rfl
theorem cok_23 : callOK Try.prog 23 = true := by kernel_rfl
theorem cok_24 : callOK Try.prog 24 = true := by kernel_rfl
theorem cok_25 : callOK Try.prog 25 = true := by kernel_rfl
theorem cok_26 : callOK Try.prog 26 = true := by kernel_rfl
theorem cok_27 : callOK Try.prog 27 = true := by kernel_rfl
theorem cok_28 : callOK Try.prog 28 = true := by kernel_rfl
theorem cok_29 : callOK Try.prog 29 = true := by kernel_rfl
theorem cok_30 : callOK Try.prog 30 = true := by kernel_rfl
theorem cok_31 : callOK Try.prog 31 = true := by kernel_rfl
theorem cok_32 : callOK Try.prog 32 = true := by kernel_rfl
theorem cok_33 : callOK Try.prog 33 = true := by kernel_rfl
theorem cok_34 : callOK Try.prog 34 = true := by kernel_rfl
theorem cok_35 : callOK Try.prog 35 = true := by kernel_rfl
theorem cok_36 : callOK Try.prog 36 = true := by kernel_rfl
theorem cok_37 : callOK Try.prog 37 = true := by kernel_rfl
theorem cok_38 : callOK Try.prog 38 = true := by kernel_rfl
theorem cok_39 : callOK Try.prog 39 = true := by kernel_rfl
theorem cok_40 : callOK Try.prog 40 = true := by kernel_rfl
theorem cok_41 : callOK Try.prog 41 = true := by kernel_rfl
theorem cok_42 : callOK Try.prog 42 = true := by kernel_rfl
theorem cok_43 : callOK Try.prog 43 = true := by kernel_rfl
theorem cok_44 : callOK Try.prog 44 = true := by kernel_rfl
theorem cok_45 : callOK Try.prog 45 = true := by kernel_rfl
theorem cok_46 : callOK Try.prog 46 = true := by kernel_rfl
theorem cok_47 : callOK Try.prog 47 = true := by kernel_rfl
theorem cok_48 : callOK Try.prog 48 = true := by kernel_rfl
theorem cok_49 : callOK Try.prog 49 = true := by kernel_rfl
theorem cok_50 : callOK Try.prog 50 = true := by kernel_rfl
theorem cok_51 : callOK Try.prog 51 = true := by kernel_rfl
theorem cok_52 : callOK Try.prog 52 = true := by kernel_rfl
theorem cok_53 : callOK Try.prog 53 = true := by kernel_rfl
theorem cok_54 : callOK Try.prog 54 = true := by kernel_rfl
theorem cok_55 : callOK Try.prog 55 = true := by kernel_rfl
theorem cok_56 : callOK Try.prog 56 = true := by kernel_rfl
theorem cok_57 : callOK Try.prog 57 = true := by kernel_rfl
theorem cok_58 : callOK Try.prog 58 = true := by kernel_rfl
theorem cok_59 : callOK Try.prog 59 = true := by kernel_rfl
theorem cok_60 : callOK Try.prog 60 = true := by kernel_rfl
theorem cok_61 : callOK Try.prog 61 = true := by kernel_rfl
theorem cok_62 : callOK Try.prog 62 = true := by kernel_rfl
theorem cok_63 : callOK Try.prog 63 = true := by kernel_rfl
theorem cok_64 : callOK Try.prog 64 = true := by kernel_rfl
theorem cok_65 : callOK Try.prog 65 = true := by kernel_rfl
theorem cok_66 : callOK Try.prog 66 = true := by kernel_rfl
theorem cok_67 : callOK Try.prog 67 = true := by kernel_rfl
theorem cok_68 : callOK Try.prog 68 = true := by kernel_rfl
theorem cok_69 : callOK Try.prog 69 = true := by kernel_rfl
theorem cok_70 : callOK Try.prog 70 = true := by kernel_rfl
theorem cok_71 : callOK Try.prog 71 = true := by kernel_rfl
theorem cok_72 : callOK Try.prog 72 = true := by kernel_rfl
theorem cok_73 : callOK Try.prog 73 = true := by kernel_rfl
theorem cok_74 : callOK Try.prog 74 = true := by kernel_rfl
theorem cok_75 : callOK Try.prog 75 = true := by kernel_rfl
theorem cok_76 : callOK Try.prog 76 = true := by kernel_rfl
theorem cok_77 : callOK Try.prog 77 = true := by kernel_rfl
theorem cok_78 : callOK Try.prog 78 = true := by kernel_rfl
theorem cok_79 : callOK Try.prog 79 = true := by kernel_rfl
theorem cok_80 : callOK Try.prog 80 = true := by kernel_rfl
theorem cok_81 : callOK Try.prog 81 = true := by kernel_rfl
theorem cok_82 : callOK Try.prog 82 = true := by kernel_rfl
theorem cok_83 : callOK Try.prog 83 = true := by kernel_rfl
theorem cok_84 : callOK Try.prog 84 = true := by kernel_rfl
theorem cok_85 : callOK Try.prog 85 = true := by kernel_rfl
theorem cok_86 : callOK Try.prog 86 = true := by kernel_rfl
theorem cok_87 : callOK Try.prog 87 = true := by kernel_rfl
theorem cok_88 : callOK Try.prog 88 = true := by kernel_rfl
theorem cok_89 : callOK Try.prog 89 = true := by kernel_rfl
theorem cok_90 : callOK Try.prog 90 = true := by kernel_rfl
theorem cok_91 : callOK Try.prog 91 = true := by kernel_rfl
theorem cok_92 : callOK Try.prog 92 = true := by kernel_rfl
theorem cok_93 : callOK Try.prog 93 = true := by kernel_rfl
theorem cok_94 : callOK Try.prog 94 = true := by kernel_rfl
theorem cok_95 : callOK Try.prog 95 = true := by kernel_rfl
theorem cok_96 : callOK Try.prog 96 = true := by kernel_rfl
theorem cok_97 : callOK Try.prog 97 = true := by kernel_rfl
theorem cok_98 : callOK Try.prog 98 = true := by kernel_rfl
theorem cok_99 : callOK Try.prog 99 = true := by kernel_rfl
theorem cok_100 : callOK Try.prog 100 = true := by kernel_rfl
theorem cok_101 : callOK Try.prog 101 = true := by kernel_rfl
theorem cok_102 : callOK Try.prog 102 = true := by kernel_rfl
theorem cok_103 : callOK Try.prog 103 = true := by kernel_rfl
theorem cok_104 : callOK Try.prog 104 = true := by kernel_rfl
theorem cok_105 : callOK Try.prog 105 = true := by kernel_rfl
theorem cok_106 : callOK Try.prog 106 = true := by kernel_rfl
theorem cok_107 : callOK Try.prog 107 = true := by kernel_rfl
theorem cok_108 : callOK Try.prog 108 = true := by kernel_rfl
theorem cok_110 : callOK Try.prog 110 = true := by kernel_rfl
theorem cok_111 : callOK Try.prog 111 = true := by kernel_rfl
theorem cok_112 : callOK Try.prog 112 = true := by kernel_rfl
theorem cok_113 : callOK Try.prog 113 = true := by kernel_rfl
theorem cok_114 : callOK Try.prog 114 = true := by kernel_rfl
theorem cok_115 : callOK Try.prog 115 = true := by kernel_rfl
theorem cok_116 : callOK Try.prog 116 = true := by kernel_rfl
theorem cok_117 : callOK Try.prog 117 = true := by kernel_rfl
theorem cok_118 : callOK Try.prog 118 = true := by kernel_rfl
theorem cok_120 : callOK Try.prog 120 = true := by kernel_rfl
theorem cok_121 : callOK Try.prog 121 = true := by kernel_rfl
theorem cok_122 : callOK Try.prog 122 = true := by kernel_rfl
theorem cok_123 : callOK Try.prog 123 = true := by kernel_rfl
theorem cok_124 : callOK Try.prog 124 = true := by kernel_rfl
theorem cok_125 : callOK Try.prog 125 = true := by kernel_rfl
theorem cok_126 : callOK Try.prog 126 = true := by kernel_rfl
theorem cok_127 : callOK Try.prog 127 = true := by kernel_rfl
theorem cok_128 : callOK Try.prog 128 = true := by kernel_rfl
theorem cok_129 : callOK Try.prog 129 = true := by kernel_rfl
theorem cok_130 : callOK Try.prog 130 = true := by kernel_rfl
theorem cok_131 : callOK Try.prog 131 = true := by kernel_rfl
theorem cok_132 : callOK Try.prog 132 = true := by kernel_rfl
theorem cok_133 : callOK Try.prog 133 = true := by kernel_rfl
theorem cok_134 : callOK Try.prog 134 = true := by kernel_rfl
theorem cok_135 : callOK Try.prog 135 = true := by kernel_rfl
theorem cok_136 : callOK Try.prog 136 = true := by kernel_rfl
theorem cok_137 : callOK Try.prog 137 = true := by kernel_rfl
theorem cok_138 : callOK Try.prog 138 = true := by kernel_rfl
theorem cok_139 : callOK Try.prog 139 = true := by kernel_rfl
theorem cok_140 : callOK Try.prog 140 = true := by kernel_rfl
theorem cok_141 : callOK Try.prog 141 = true := by kernel_rfl
theorem cok_142 : callOK Try.prog 142 = true := by kernel_rfl
theorem cok_143 : callOK Try.prog 143 = true := by kernel_rfl
theorem cok_144 : callOK Try.prog 144 = true := by kernel_rfl
theorem cok_145 : callOK Try.prog 145 = true := by kernel_rfl
theorem cok_146 : callOK Try.prog 146 = true := by kernel_rfl
theorem cok_147 : callOK Try.prog 147 = true := by kernel_rfl
theorem cok_148 : callOK Try.prog 148 = true := by kernel_rfl
theorem cok_149 : callOK Try.prog 149 = true := by kernel_rfl
theorem cok_150 : callOK Try.prog 150 = true := by kernel_rfl
theorem cok_151 : callOK Try.prog 151 = true := by kernel_rfl
theorem cok_152 : callOK Try.prog 152 = true := by kernel_rfl
theorem cok_153 : callOK Try.prog 153 = true := by kernel_rfl
theorem cok_154 : callOK Try.prog 154 = true := by kernel_rfl
theorem cok_155 : callOK Try.prog 155 = true := by kernel_rfl
theorem cok_156 : callOK Try.prog 156 = true := by kernel_rfl
theorem cok_157 : callOK Try.prog 157 = true := by kernel_rfl
theorem cok_158 : callOK Try.prog 158 = true := by kernel_rfl
theorem cok_159 : callOK Try.prog 159 = true := by kernel_rfl
theorem cok_160 : callOK Try.prog 160 = true := by kernel_rfl
end Go.Proofs.Ytjfpdbhjoofllaa
