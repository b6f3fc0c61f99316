/-
  Closed facts on the types and functions of the translation, each by the kernel. No condition.
-/
import Derived.Test.YtfebeomnlkfgoaaProg
import Derived.Test.YtfebeomnlkfgoaaWf
import Derived.KernelRfl
namespace Go.Proofs.Ytfebeomnlkfgoaa
open Go.VS
theorem mixed_orders : Try.prog.follows .mixedOrders = true := by kernel_rfl
theorem tyk_2 : tyk Try.prog 2 = some (false, 1) := by kernel_rfl
theorem zk_2 : zeroK Try.prog 2 = some (1, .int .i64 0) := by kernel_rfl
theorem und_2 : Try.prog.underlying 2 = some (.int .i64) := by kernel_rfl
theorem tyk_3 : tyk Try.prog 3 = some (false, 1) := by kernel_rfl
theorem zk_3 : zeroK Try.prog 3 = some (1, .int .i64 0) := by kernel_rfl
theorem und_3 : Try.prog.underlying 3 = some (.int .i64) := by kernel_rfl
theorem tyk_4 : tyk Try.prog 4 = some (false, 1) := by kernel_rfl
theorem zk_4 : zeroK Try.prog 4 = some (1, .bool false) := by kernel_rfl
theorem und_4 : Try.prog.underlying 4 = some .bool := by kernel_rfl
theorem tyk_5 : tyk Try.prog 5 = some (false, 1) := by kernel_rfl
theorem zk_5 : zeroK Try.prog 5 = some (1, .int .u8 0) := by kernel_rfl
theorem und_5 : Try.prog.underlying 5 = some (.int .u8) := by kernel_rfl
theorem tyk_9 : tyk Try.prog 9 = some (false, 1) := by kernel_rfl
theorem zk_9 : zeroK Try.prog 9 = some (1, .str []) := by kernel_rfl
theorem istr_9 : isStr Try.prog 9 = true := by kernel_rfl
theorem tyk_12 : tyk Try.prog 12 = some (false, 1) := by kernel_rfl
theorem zk_12 : zeroK Try.prog 12 = some (1, .int .u64 0) := by kernel_rfl
theorem und_12 : Try.prog.underlying 12 = some (.int .u64) := by kernel_rfl
theorem tyk_13 : tyk Try.prog 13 = some (true, 2) := by kernel_rfl
theorem zk_13 : zeroK Try.prog 13 = some (2, .agg [.str [], .int .u64 0]) := by kernel_rfl
theorem fo_13_0 : fieldOff Try.prog 13 0 = some 0 := by kernel_rfl
theorem fo_13_1 : fieldOff Try.prog 13 1 = some 1 := by kernel_rfl
theorem tyk_21 : tyk Try.prog 21 = some (false, 1) := by kernel_rfl
theorem zk_21 : zeroK Try.prog 21 = some (1, .int .i32 0) := by kernel_rfl
theorem und_21 : Try.prog.underlying 21 = some (.int .i32) := by kernel_rfl
theorem tyk_22 : tyk Try.prog 22 = some (false, 1) := by kernel_rfl
theorem zk_22 : zeroK Try.prog 22 = some (1, .nils) := by kernel_rfl
theorem esz_22 : elemSz Try.prog 22 = some (75, 6) := by kernel_rfl
theorem eby_22 : elemBy Try.prog 22 = true := by kernel_rfl
theorem isl_22 : isSl Try.prog 22 = true := by kernel_rfl
theorem usl_22 : Try.prog.underlying 22 = some (.slice 75) := by kernel_rfl
theorem tyk_24 : tyk Try.prog 24 = some (false, 1) := by kernel_rfl
theorem zk_24 : zeroK Try.prog 24 = some (1, .nils) := by kernel_rfl
theorem esz_24 : elemSz Try.prog 24 = some (36, 1) := by kernel_rfl
theorem eby_24 : elemBy Try.prog 24 = true := by kernel_rfl
theorem isl_24 : isSl Try.prog 24 = true := by kernel_rfl
theorem usl_24 : Try.prog.underlying 24 = some (.slice 36) := by kernel_rfl
theorem tyk_27 : tyk Try.prog 27 = some (false, 1) := by kernel_rfl
theorem zk_27 : zeroK Try.prog 27 = some (1, .nils) := by kernel_rfl
theorem esz_27 : elemSz Try.prog 27 = some (73, 6) := by kernel_rfl
theorem eby_27 : elemBy Try.prog 27 = true := by kernel_rfl
theorem isl_27 : isSl Try.prog 27 = true := by kernel_rfl
theorem usl_27 : Try.prog.underlying 27 = some (.slice 73) := by kernel_rfl
theorem tyk_34 : tyk Try.prog 34 = some (false, 1) := by kernel_rfl
theorem zk_34 : zeroK Try.prog 34 = some (1, .nils) := by kernel_rfl
theorem esz_34 : elemSz Try.prog 34 = some (80, 5) := by kernel_rfl
theorem eby_34 : elemBy Try.prog 34 = true := by kernel_rfl
theorem isl_34 : isSl Try.prog 34 = true := by kernel_rfl
theorem usl_34 : Try.prog.underlying 34 = some (.slice 80) := by kernel_rfl
theorem tyk_36 : tyk Try.prog 36 = some (false, 1) := by kernel_rfl
theorem zk_36 : zeroK Try.prog 36 = some (1, .nils) := by kernel_rfl
theorem esz_36 : elemSz Try.prog 36 = some (3, 1) := by kernel_rfl
theorem eby_36 : elemBy Try.prog 36 = true := by kernel_rfl
theorem isl_36 : isSl Try.prog 36 = true := by kernel_rfl
theorem usl_36 : Try.prog.underlying 36 = some (.slice 3) := by kernel_rfl
theorem tyk_39 : tyk Try.prog 39 = some (false, 1) := by kernel_rfl
theorem zk_39 : zeroK Try.prog 39 = some (1, .nils) := by kernel_rfl
theorem esz_39 : elemSz Try.prog 39 = some (67, 5) := by kernel_rfl
theorem eby_39 : elemBy Try.prog 39 = true := by kernel_rfl
theorem isl_39 : isSl Try.prog 39 = true := by kernel_rfl
theorem usl_39 : Try.prog.underlying 39 = some (.slice 67) := by kernel_rfl
theorem tyk_55 : tyk Try.prog 55 = some (false, 1) := by kernel_rfl
theorem zk_55 : zeroK Try.prog 55 = some (1, .nils) := by kernel_rfl
theorem esz_55 : elemSz Try.prog 55 = some (5, 1) := by kernel_rfl
theorem eby_55 : elemBy Try.prog 55 = true := by kernel_rfl
theorem isl_55 : isSl Try.prog 55 = true := by kernel_rfl
theorem usl_55 : Try.prog.underlying 55 = some (.slice 5) := by kernel_rfl
theorem tyk_66 : tyk Try.prog 66 = some (true, 5) := by kernel_rfl
theorem zk_66 : zeroK Try.prog 66 = some (5, .agg [.int .i64 0, .int .i64 0, .int .i64 0, .nils, .int .i64 0]) := by kernel_rfl
theorem fo_66_0 : fieldOff Try.prog 66 0 = some 0 := by kernel_rfl
theorem fo_66_1 : fieldOff Try.prog 66 1 = some 1 := by kernel_rfl
theorem fo_66_2 : fieldOff Try.prog 66 2 = some 2 := by kernel_rfl
theorem fo_66_3 : fieldOff Try.prog 66 3 = some 3 := by kernel_rfl
theorem fo_66_4 : fieldOff Try.prog 66 4 = some 4 := by kernel_rfl
theorem tyk_67 : tyk Try.prog 67 = some (true, 5) := by kernel_rfl
theorem zk_67 : zeroK Try.prog 67 = some (5, .agg [.int .i64 0, .int .i64 0, .int .i64 0, .nils, .int .i64 0]) := by kernel_rfl
theorem fo_67_0 : fieldOff Try.prog 67 0 = some 0 := by kernel_rfl
theorem fo_67_1 : fieldOff Try.prog 67 1 = some 1 := by kernel_rfl
theorem fo_67_2 : fieldOff Try.prog 67 2 = some 2 := by kernel_rfl
theorem fo_67_3 : fieldOff Try.prog 67 3 = some 3 := by kernel_rfl
theorem fo_67_4 : fieldOff Try.prog 67 4 = some 4 := by kernel_rfl
theorem pl_67 : placesK Try.prog 67 = some [(0, 1), (1, 1), (2, 1), (3, 1), (4, 1)] := by kernel_rfl
theorem tyk_72 : tyk Try.prog 72 = some (true, 6) := by kernel_rfl
theorem zk_72 : zeroK Try.prog 72 = some (6, .agg [.int .i64 0, .int .i64 0, .int .i64 0, .int .i64 0, .int .i64 0, .bool false]) := by kernel_rfl
theorem fo_72_0 : fieldOff Try.prog 72 0 = some 0 := by kernel_rfl
theorem fo_72_1 : fieldOff Try.prog 72 1 = some 1 := by kernel_rfl
theorem fo_72_2 : fieldOff Try.prog 72 2 = some 2 := by kernel_rfl
theorem fo_72_3 : fieldOff Try.prog 72 3 = some 3 := by kernel_rfl
theorem fo_72_4 : fieldOff Try.prog 72 4 = some 4 := by kernel_rfl
theorem fo_72_5 : fieldOff Try.prog 72 5 = some 5 := by kernel_rfl
theorem tyk_73 : tyk Try.prog 73 = some (true, 6) := by kernel_rfl
theorem zk_73 : zeroK Try.prog 73 = some (6, .agg [.int .i64 0, .int .i64 0, .int .i64 0, .int .i64 0, .int .i64 0, .bool false]) := by kernel_rfl
theorem fo_73_0 : fieldOff Try.prog 73 0 = some 0 := by kernel_rfl
theorem fo_73_1 : fieldOff Try.prog 73 1 = some 1 := by kernel_rfl
theorem fo_73_2 : fieldOff Try.prog 73 2 = some 2 := by kernel_rfl
theorem fo_73_3 : fieldOff Try.prog 73 3 = some 3 := by kernel_rfl
theorem fo_73_4 : fieldOff Try.prog 73 4 = some 4 := by kernel_rfl
theorem fo_73_5 : fieldOff Try.prog 73 5 = some 5 := by kernel_rfl
theorem fe_73 : flatStruct Try.prog 73 = some [0, 0, 0, 0, 0, 1] := by kernel_rfl
theorem pl_73 : placesK Try.prog 73 = some [(0, 1), (1, 1), (2, 1), (3, 1), (4, 1), (5, 1)] := by kernel_rfl
theorem tyk_75 : tyk Try.prog 75 = some (true, 6) := by kernel_rfl
theorem zk_75 : zeroK Try.prog 75 = some (6, .agg [.int .i64 0, .int .i64 0, .int .i64 0, .int .i64 0, .int .i64 0, .bool false]) := by kernel_rfl
theorem fo_75_0 : fieldOff Try.prog 75 0 = some 0 := by kernel_rfl
theorem fo_75_1 : fieldOff Try.prog 75 1 = some 1 := by kernel_rfl
theorem fo_75_2 : fieldOff Try.prog 75 2 = some 2 := by kernel_rfl
theorem fo_75_3 : fieldOff Try.prog 75 3 = some 3 := by kernel_rfl
theorem fo_75_4 : fieldOff Try.prog 75 4 = some 4 := by kernel_rfl
theorem fo_75_5 : fieldOff Try.prog 75 5 = some 5 := by kernel_rfl
theorem fe_75 : flatStruct Try.prog 75 = some [0, 0, 0, 0, 0, 1] := by kernel_rfl
theorem pl_75 : placesK Try.prog 75 = some [(0, 1), (1, 1), (2, 1), (3, 1), (4, 1), (5, 1)] := by kernel_rfl
theorem tyk_80 : tyk Try.prog 80 = some (true, 5) := by kernel_rfl
theorem zk_80 : zeroK Try.prog 80 = some (5, .agg [.int .i64 0, .int .i64 0, .int .i64 0, .nils, .int .i64 0]) := by kernel_rfl
theorem fo_80_0 : fieldOff Try.prog 80 0 = some 0 := by kernel_rfl
theorem fo_80_1 : fieldOff Try.prog 80 1 = some 1 := by kernel_rfl
theorem fo_80_2 : fieldOff Try.prog 80 2 = some 2 := by kernel_rfl
theorem fo_80_3 : fieldOff Try.prog 80 3 = some 3 := by kernel_rfl
theorem fo_80_4 : fieldOff Try.prog 80 4 = some 4 := by kernel_rfl
theorem pl_80 : placesK Try.prog 80 = some [(0, 1), (1, 1), (2, 1), (3, 1), (4, 1)] := by kernel_rfl
theorem tyk_96 : tyk Try.prog 96 = some (false, 1) := by kernel_rfl
theorem tyk_97 : tyk Try.prog 97 = some (false, 1) := by kernel_rfl
theorem zk_97 : zeroK Try.prog 97 = some (1, .int .u64 0) := by kernel_rfl
theorem und_97 : Try.prog.underlying 97 = some (.int .u64) := by kernel_rfl
theorem tyk_98 : tyk Try.prog 98 = some (true, 3) := by kernel_rfl
theorem zk_98 : zeroK Try.prog 98 = some (3, .agg [.nils, .int .i64 0, .int .u64 0]) := by kernel_rfl
theorem fo_98_0 : fieldOff Try.prog 98 0 = some 0 := by kernel_rfl
theorem fo_98_1 : fieldOff Try.prog 98 1 = some 1 := by kernel_rfl
theorem fo_98_2 : fieldOff Try.prog 98 2 = some 2 := by kernel_rfl
theorem tyk_99 : tyk Try.prog 99 = some (true, 3) := by kernel_rfl
theorem zk_99 : zeroK Try.prog 99 = some (3, .agg [.nils, .int .i64 0, .int .u64 0]) := by kernel_rfl
theorem fo_99_0 : fieldOff Try.prog 99 0 = some 0 := by kernel_rfl
theorem fo_99_1 : fieldOff Try.prog 99 1 = some 1 := by kernel_rfl
theorem fo_99_2 : fieldOff Try.prog 99 2 = some 2 := by kernel_rfl
theorem pl_99 : placesK Try.prog 99 = some [(0, 1), (1, 1), (2, 1)] := by kernel_rfl
theorem tyk_113 : tyk Try.prog 113 = some (false, 1) := by kernel_rfl
theorem zk_113 : zeroK Try.prog 113 = some (1, .int .u64 0) := by kernel_rfl
theorem und_113 : Try.prog.underlying 113 = some (.int .u64) := by kernel_rfl
theorem tyk_120 : tyk Try.prog 120 = some (false, 1) := by kernel_rfl
theorem zk_120 : zeroK Try.prog 120 = some (1, .int .i64 0) := by kernel_rfl
theorem und_120 : Try.prog.underlying 120 = some (.int .i64) := by kernel_rfl
theorem tyk_127 : tyk Try.prog 127 = some (false, 1) := by kernel_rfl
theorem zk_127 : zeroK Try.prog 127 = some (1, .int .u32 0) := by kernel_rfl
theorem und_127 : Try.prog.underlying 127 = some (.int .u32) := by kernel_rfl
theorem tyk_133 : tyk Try.prog 133 = some (false, 1) := by kernel_rfl
theorem zk_133 : zeroK Try.prog 133 = some (1, .int .u64 0) := by kernel_rfl
theorem und_133 : Try.prog.underlying 133 = some (.int .u64) := by kernel_rfl
theorem tyk_137 : tyk Try.prog 137 = some (false, 1) := by kernel_rfl
theorem tyk_141 : tyk Try.prog 141 = some (false, 1) := by kernel_rfl
theorem tyk_154 : tyk Try.prog 154 = some (false, 1) := by kernel_rfl
theorem cok_3 : callOK Try.prog 3 = true := by kernel_rfl
theorem cok_4 : callOK Try.prog 4 = true := by kernel_rfl
theorem cok_5 : callOK Try.prog 5 = true := by kernel_rfl
theorem cok_6 : callOK Try.prog 6 = true := by kernel_rfl
theorem cok_7 : callOK Try.prog 7 = true := by kernel_rfl
theorem cok_8 : callOK Try.prog 8 = true := by kernel_rfl
theorem cok_9 : callOK Try.prog 9 = true := by kernel_rfl
theorem cok_10 : callOK Try.prog 10 = true := by kernel_rfl
theorem cok_11 : callOK Try.prog 11 = true := by kernel_rfl
theorem cok_12 : callOK Try.prog 12 = true := by kernel_rfl
theorem cok_13 : callOK Try.prog 13 = true := by kernel_rfl
theorem cok_14 : callOK Try.prog 14 = true := by kernel_rfl
theorem cok_15 : callOK Try.prog 15 = true := by kernel_rfl
theorem cok_16 : callOK Try.prog 16 = true := by kernel_rfl
theorem cok_17 : callOK Try.prog 17 = true := by kernel_rfl
theorem cok_18 : callOK Try.prog 18 = true := by kernel_rfl
theorem cok_19 : callOK Try.prog 19 = true := by kernel_rfl
theorem cok_20 : callOK Try.prog 20 = true := by kernel_rfl
theorem cok_21 : callOK Try.prog 21 = true := by kernel_rfl
theorem cok_22 : callOK Try.prog 22 = true := by kernel_rfl
theorem cok_23 : callOK Try.prog 23 = true := by kernel_rfl
theorem cok_24 : callOK Try.prog 24 = true := by kernel_rfl
theorem cok_25 : callOK Try.prog 25 = true := by kernel_rfl
theorem cok_26 : callOK Try.prog 26 = true := by kernel_rfl
theorem cok_27 : callOK Try.prog 27 = true := by kernel_rfl
theorem cok_28 : callOK Try.prog 28 = true := by kernel_rfl
theorem cok_29 : callOK Try.prog 29 = true := by kernel_rfl
theorem cok_30 : callOK Try.prog 30 = true := by kernel_rfl
theorem cok_31 : callOK Try.prog 31 = true := by kernel_rfl
theorem cok_32 : callOK Try.prog 32 = true := by kernel_rfl
theorem cok_33 : callOK Try.prog 33 = true := by kernel_rfl
theorem cok_34 : callOK Try.prog 34 = true := by kernel_rfl
theorem cok_35 : callOK Try.prog 35 = true := by kernel_rfl
theorem cok_36 : callOK Try.prog 36 = true := by kernel_rfl
theorem cok_37 : callOK Try.prog 37 = true := by kernel_rfl
theorem cok_38 : callOK Try.prog 38 = true := by kernel_rfl
theorem cok_39 : callOK Try.prog 39 = true := by kernel_rfl
theorem cok_40 : callOK Try.prog 40 = true := by kernel_rfl
theorem cok_41 : callOK Try.prog 41 = true := by kernel_rfl
theorem cok_42 : callOK Try.prog 42 = true := by kernel_rfl
theorem cok_43 : callOK Try.prog 43 = true := by kernel_rfl
theorem cok_44 : callOK Try.prog 44 = true := by kernel_rfl
theorem cok_45 : callOK Try.prog 45 = true := by kernel_rfl
theorem cok_46 : callOK Try.prog 46 = true := by kernel_rfl
theorem cok_47 : callOK Try.prog 47 = true := by kernel_rfl
theorem cok_48 : callOK Try.prog 48 = true := by kernel_rfl
theorem cok_49 : callOK Try.prog 49 = true := by kernel_rfl
theorem cok_50 : callOK Try.prog 50 = true := by kernel_rfl
theorem cok_51 : callOK Try.prog 51 = true := by kernel_rfl
theorem cok_52 : callOK Try.prog 52 = true := by kernel_rfl
theorem cok_53 : callOK Try.prog 53 = true := by kernel_rfl
theorem cok_54 : callOK Try.prog 54 = true := by kernel_rfl
theorem cok_55 : callOK Try.prog 55 = true := by kernel_rfl
theorem cok_56 : callOK Try.prog 56 = true := by kernel_rfl
theorem cok_57 : callOK Try.prog 57 = true := by kernel_rfl
theorem cok_58 : callOK Try.prog 58 = true := by kernel_rfl
theorem cok_59 : callOK Try.prog 59 = true := by kernel_rfl
theorem cok_60 : callOK Try.prog 60 = true := by kernel_rfl
theorem cok_61 : callOK Try.prog 61 = true := by kernel_rfl
theorem cok_62 : callOK Try.prog 62 = true := by kernel_rfl
theorem cok_63 : callOK Try.prog 63 = true := by kernel_rfl
theorem cok_64 : callOK Try.prog 64 = true := by kernel_rfl
theorem cok_65 : callOK Try.prog 65 = true := by kernel_rfl
theorem cok_66 : callOK Try.prog 66 = true := by kernel_rfl
theorem cok_67 : callOK Try.prog 67 = true := by kernel_rfl
theorem cok_68 : callOK Try.prog 68 = true := by kernel_rfl
theorem cok_69 : callOK Try.prog 69 = true := by kernel_rfl
theorem cok_70 : callOK Try.prog 70 = true := by kernel_rfl
theorem cok_71 : callOK Try.prog 71 = true := by kernel_rfl
theorem cok_72 : callOK Try.prog 72 = true := by kernel_rfl
theorem cok_73 : callOK Try.prog 73 = true := by kernel_rfl
theorem cok_74 : callOK Try.prog 74 = true := by kernel_rfl
theorem cok_75 : callOK Try.prog 75 = true := by kernel_rfl
theorem cok_76 : callOK Try.prog 76 = true := by kernel_rfl
theorem cok_77 : callOK Try.prog 77 = true := by kernel_rfl
theorem cok_78 : callOK Try.prog 78 = true := by kernel_rfl
theorem cok_79 : callOK Try.prog 79 = true := by kernel_rfl
theorem cok_80 : callOK Try.prog 80 = true := by kernel_rfl
theorem cok_81 : callOK Try.prog 81 = true := by kernel_rfl
theorem cok_82 : callOK Try.prog 82 = true := by kernel_rfl
theorem cok_83 : callOK Try.prog 83 = true := by kernel_rfl
theorem cok_84 : callOK Try.prog 84 = true := by kernel_rfl
theorem cok_85 : callOK Try.prog 85 = true := by kernel_rfl
theorem cok_86 : callOK Try.prog 86 = true := by kernel_rfl
theorem cok_87 : callOK Try.prog 87 = true := by kernel_rfl
theorem cok_88 : callOK Try.prog 88 = true := by kernel_rfl
theorem cok_89 : callOK Try.prog 89 = true := by kernel_rfl
theorem cok_90 : callOK Try.prog 90 = true := by kernel_rfl
theorem cok_91 : callOK Try.prog 91 = true := by kernel_rfl
theorem cok_92 : callOK Try.prog 92 = true := by kernel_rfl
theorem cok_93 : callOK Try.prog 93 = true := by kernel_rfl
theorem cok_94 : callOK Try.prog 94 = true := by kernel_rfl
theorem cok_95 : callOK Try.prog 95 = true := by kernel_rfl
theorem cok_96 : callOK Try.prog 96 = true := by kernel_rfl
theorem cok_97 : callOK Try.prog 97 = true := by kernel_rfl
theorem cok_98 : callOK Try.prog 98 = true := by kernel_rfl
theorem cok_99 : callOK Try.prog 99 = true := by kernel_rfl
theorem cok_100 : callOK Try.prog 100 = true := by kernel_rfl
theorem cok_101 : callOK Try.prog 101 = true := by kernel_rfl
theorem cok_102 : callOK Try.prog 102 = true := by kernel_rfl
theorem cok_103 : callOK Try.prog 103 = true := by kernel_rfl
theorem cok_104 : callOK Try.prog 104 = true := by kernel_rfl
theorem cok_105 : callOK Try.prog 105 = true := by kernel_rfl
theorem cok_106 : callOK Try.prog 106 = true := by kernel_rfl
theorem cok_107 : callOK Try.prog 107 = true := by kernel_rfl
theorem cok_108 : callOK Try.prog 108 = true := by kernel_rfl
theorem cok_109 : callOK Try.prog 109 = true := by kernel_rfl
theorem cok_110 : callOK Try.prog 110 = true := by kernel_rfl
theorem cok_111 : callOK Try.prog 111 = true := by kernel_rfl
theorem cok_112 : callOK Try.prog 112 = true := by kernel_rfl
theorem cok_113 : callOK Try.prog 113 = true := by kernel_rfl
theorem cok_114 : callOK Try.prog 114 = true := by kernel_rfl
theorem cok_115 : callOK Try.prog 115 = true := by kernel_rfl
theorem cok_116 : callOK Try.prog 116 = true := by kernel_rfl
theorem cok_117 : callOK Try.prog 117 = true := by kernel_rfl
theorem cok_118 : callOK Try.prog 118 = true := by kernel_rfl
theorem cok_119 : callOK Try.prog 119 = true := by kernel_rfl
theorem cok_120 : callOK Try.prog 120 = true := by kernel_rfl
theorem cok_121 : callOK Try.prog 121 = true := by kernel_rfl
theorem cok_122 : callOK Try.prog 122 = true := by kernel_rfl
theorem cok_123 : callOK Try.prog 123 = true := by kernel_rfl
theorem cok_124 : callOK Try.prog 124 = true := by kernel_rfl
theorem cok_125 : callOK Try.prog 125 = true := by kernel_rfl
theorem cok_126 : callOK Try.prog 126 = true := by kernel_rfl
theorem cok_127 : callOK Try.prog 127 = true := by kernel_rfl
theorem cok_128 : callOK Try.prog 128 = true := by kernel_rfl
theorem cok_129 : callOK Try.prog 129 = true := by kernel_rfl
theorem cok_130 : callOK Try.prog 130 = true := by kernel_rfl
theorem cok_131 : callOK Try.prog 131 = true := by kernel_rfl
theorem cok_132 : callOK Try.prog 132 = true := by kernel_rfl
theorem cok_133 : callOK Try.prog 133 = true := by kernel_rfl
theorem cok_134 : callOK Try.prog 134 = true := by kernel_rfl
theorem cok_135 : callOK Try.prog 135 = true := by kernel_rfl
theorem cok_136 : callOK Try.prog 136 = true := by kernel_rfl
theorem cok_137 : callOK Try.prog 137 = true := by kernel_rfl
theorem cok_138 : callOK Try.prog 138 = true := by kernel_rfl
theorem cok_139 : callOK Try.prog 139 = true := by kernel_rfl
theorem cok_140 : callOK Try.prog 140 = true := by kernel_rfl
theorem cok_141 : callOK Try.prog 141 = true := by kernel_rfl
theorem cok_142 : callOK Try.prog 142 = true := by kernel_rfl
theorem cok_143 : callOK Try.prog 143 = true := by kernel_rfl
theorem cok_144 : callOK Try.prog 144 = true := by kernel_rfl
theorem cok_145 : callOK Try.prog 145 = true := by kernel_rfl
theorem cok_146 : callOK Try.prog 146 = true := by kernel_rfl
theorem cok_147 : callOK Try.prog 147 = true := by kernel_rfl
theorem cok_148 : callOK Try.prog 148 = true := by kernel_rfl
theorem cok_149 : callOK Try.prog 149 = true := by kernel_rfl
theorem cok_150 : callOK Try.prog 150 = true := by kernel_rfl
theorem cok_151 : callOK Try.prog 151 = true := by kernel_rfl
theorem cok_152 : callOK Try.prog 152 = true := by kernel_rfl
theorem cok_153 : callOK Try.prog 153 = true := by kernel_rfl
theorem cok_154 : callOK Try.prog 154 = true := by kernel_rfl
theorem cok_155 : callOK Try.prog 155 = true := by kernel_rfl
theorem cok_156 : callOK Try.prog 156 = true := by kernel_rfl
theorem cok_157 : callOK Try.prog 157 = true := by kernel_rfl
end Go.Proofs.Ytfebeomnlkfgoaa
