/-
  Closed facts on the types and functions of the translation, each by the kernel. No condition.
-/
import Derived.Test.YthffmnpbonkpaaaProg
import Derived.Test.YthffmnpbonkpaaaWf
import Derived.KernelRfl
namespace Go.Proofs.Ythffmnpbonkpaaa
open Go.VS
theorem mixed_orders : Try.prog.follows .mixedOrders = true := by kernel_rfl
theorem tyk_2 : tyk Try.prog 2 = some (false, 1) := by kernel_rfl
theorem zk_2 : zeroK Try.prog 2 = some (1, .int .i64 0) := by kernel_rfl
theorem und_2 : Try.prog.underlying 2 = some (.int .i64) := by kernel_rfl
theorem tyk_3 : tyk Try.prog 3 = some (false, 1) := by kernel_rfl
theorem zk_3 : zeroK Try.prog 3 = some (1, .int .i64 0) := by kernel_rfl
theorem und_3 : Try.prog.underlying 3 = some (.int .i64) := by kernel_rfl
theorem tyk_4 : tyk Try.prog 4 = some (false, 1) := by kernel_rfl
theorem zk_4 : zeroK Try.prog 4 = some (1, .bool false) := by kernel_rfl
theorem und_4 : Try.prog.underlying 4 = some .bool := by kernel_rfl
theorem tyk_5 : tyk Try.prog 5 = some (false, 1) := by kernel_rfl
theorem zk_5 : zeroK Try.prog 5 = some (1, .int .u8 0) := by kernel_rfl
theorem und_5 : Try.prog.underlying 5 = some (.int .u8) := by kernel_rfl
theorem tyk_9 : tyk Try.prog 9 = some (false, 1) := by kernel_rfl
theorem zk_9 : zeroK Try.prog 9 = some (1, .str []) := by kernel_rfl
theorem istr_9 : isStr Try.prog 9 = true := by kernel_rfl
theorem tyk_12 : tyk Try.prog 12 = some (false, 1) := by kernel_rfl
theorem zk_12 : zeroK Try.prog 12 = some (1, .int .u64 0) := by kernel_rfl
theorem und_12 : Try.prog.underlying 12 = some (.int .u64) := by kernel_rfl
theorem tyk_13 : tyk Try.prog 13 = some (true, 2) := by kernel_rfl
theorem zk_13 : zeroK Try.prog 13 = some (2, .agg [.str [], .int .u64 0]) := by kernel_rfl
theorem fo_13_0 : fieldOff Try.prog 13 0 = some 0 := by kernel_rfl
theorem fo_13_1 : fieldOff Try.prog 13 1 = some 1 := by kernel_rfl
theorem tyk_21 : tyk Try.prog 21 = some (false, 1) := by kernel_rfl
theorem zk_21 : zeroK Try.prog 21 = some (1, .int .i32 0) := by kernel_rfl
theorem und_21 : Try.prog.underlying 21 = some (.int .i32) := by kernel_rfl
theorem tyk_22 : tyk Try.prog 22 = some (false, 1) := by kernel_rfl
theorem zk_22 : zeroK Try.prog 22 = some (1, .nils) := by kernel_rfl
theorem esz_22 : elemSz Try.prog 22 = some (5, 1) := by kernel_rfl
theorem eby_22 : elemBy Try.prog 22 = true := by kernel_rfl
theorem isl_22 : isSl Try.prog 22 = true := by kernel_rfl
theorem usl_22 : Try.prog.underlying 22 = some (.slice 5) := by kernel_rfl
theorem tyk_24 : tyk Try.prog 24 = some (false, 1) := by kernel_rfl
theorem zk_24 : zeroK Try.prog 24 = some (1, .nils) := by kernel_rfl
theorem esz_24 : elemSz Try.prog 24 = some (43, 2) := by kernel_rfl
theorem eby_24 : elemBy Try.prog 24 = true := by kernel_rfl
theorem isl_24 : isSl Try.prog 24 = true := by kernel_rfl
theorem usl_24 : Try.prog.underlying 24 = some (.slice 43) := by kernel_rfl
theorem tyk_25 : tyk Try.prog 25 = some (true, 4) := by kernel_rfl
theorem zk_25 : zeroK Try.prog 25 = some (4, .agg [.int .i64 0, .int .i64 0, .int .i64 0, .nils]) := by kernel_rfl
theorem fo_25_0 : fieldOff Try.prog 25 0 = some 0 := by kernel_rfl
theorem fo_25_1 : fieldOff Try.prog 25 1 = some 1 := by kernel_rfl
theorem fo_25_2 : fieldOff Try.prog 25 2 = some 2 := by kernel_rfl
theorem fo_25_3 : fieldOff Try.prog 25 3 = some 3 := by kernel_rfl
theorem tyk_26 : tyk Try.prog 26 = some (true, 4) := by kernel_rfl
theorem zk_26 : zeroK Try.prog 26 = some (4, .agg [.int .i64 0, .int .i64 0, .int .i64 0, .nils]) := by kernel_rfl
theorem fo_26_0 : fieldOff Try.prog 26 0 = some 0 := by kernel_rfl
theorem fo_26_1 : fieldOff Try.prog 26 1 = some 1 := by kernel_rfl
theorem fo_26_2 : fieldOff Try.prog 26 2 = some 2 := by kernel_rfl
theorem fo_26_3 : fieldOff Try.prog 26 3 = some 3 := by kernel_rfl
theorem pl_26 : placesK Try.prog 26 = some [(0, 1), (1, 1), (2, 1), (3, 1)] := by kernel_rfl
theorem tyk_27 : tyk Try.prog 27 = some (false, 1) := by kernel_rfl
theorem zk_27 : zeroK Try.prog 27 = some (1, .nils) := by kernel_rfl
theorem esz_27 : elemSz Try.prog 27 = some (37, 4) := by kernel_rfl
theorem eby_27 : elemBy Try.prog 27 = true := by kernel_rfl
theorem isl_27 : isSl Try.prog 27 = true := by kernel_rfl
theorem usl_27 : Try.prog.underlying 27 = some (.slice 37) := by kernel_rfl
theorem tyk_30 : tyk Try.prog 30 = some (false, 1) := by kernel_rfl
theorem zk_30 : zeroK Try.prog 30 = some (1, .nils) := by kernel_rfl
theorem esz_30 : elemSz Try.prog 30 = some (3, 1) := by kernel_rfl
theorem eby_30 : elemBy Try.prog 30 = true := by kernel_rfl
theorem isl_30 : isSl Try.prog 30 = true := by kernel_rfl
theorem usl_30 : Try.prog.underlying 30 = some (.slice 3) := by kernel_rfl
theorem tyk_36 : tyk Try.prog 36 = some (true, 4) := by kernel_rfl
theorem zk_36 : zeroK Try.prog 36 = some (4, .agg [.int .i64 0, .int .i64 0, .int .i64 0, .int .i64 0]) := by kernel_rfl
theorem fo_36_0 : fieldOff Try.prog 36 0 = some 0 := by kernel_rfl
theorem fo_36_1 : fieldOff Try.prog 36 1 = some 1 := by kernel_rfl
theorem fo_36_2 : fieldOff Try.prog 36 2 = some 2 := by kernel_rfl
theorem fo_36_3 : fieldOff Try.prog 36 3 = some 3 := by kernel_rfl
theorem tyk_37 : tyk Try.prog 37 = some (true, 4) := by kernel_rfl
theorem zk_37 : zeroK Try.prog 37 = some (4, .agg [.int .i64 0, .int .i64 0, .int .i64 0, .int .i64 0]) := by kernel_rfl
theorem fo_37_0 : fieldOff Try.prog 37 0 = some 0 := by kernel_rfl
theorem fo_37_1 : fieldOff Try.prog 37 1 = some 1 := by kernel_rfl
theorem fo_37_2 : fieldOff Try.prog 37 2 = some 2 := by kernel_rfl
theorem fo_37_3 : fieldOff Try.prog 37 3 = some 3 := by kernel_rfl
theorem fe_37 : flatStruct Try.prog 37 = some [0, 0, 0, 0] := by kernel_rfl
theorem pl_37 : placesK Try.prog 37 = some [(0, 1), (1, 1), (2, 1), (3, 1)] := by kernel_rfl
theorem tyk_42 : tyk Try.prog 42 = some (true, 2) := by kernel_rfl
theorem zk_42 : zeroK Try.prog 42 = some (2, .agg [.int .i64 0, .int .i64 0]) := by kernel_rfl
theorem fo_42_0 : fieldOff Try.prog 42 0 = some 0 := by kernel_rfl
theorem fo_42_1 : fieldOff Try.prog 42 1 = some 1 := by kernel_rfl
theorem tyk_43 : tyk Try.prog 43 = some (true, 2) := by kernel_rfl
theorem zk_43 : zeroK Try.prog 43 = some (2, .agg [.int .i64 0, .int .i64 0]) := by kernel_rfl
theorem fo_43_0 : fieldOff Try.prog 43 0 = some 0 := by kernel_rfl
theorem fo_43_1 : fieldOff Try.prog 43 1 = some 1 := by kernel_rfl
theorem fe_43 : flatStruct Try.prog 43 = some [0, 0] := by kernel_rfl
theorem pl_43 : placesK Try.prog 43 = some [(0, 1), (1, 1)] := by kernel_rfl
theorem tyk_64 : tyk Try.prog 64 = some (false, 1) := by kernel_rfl
theorem zk_64 : zeroK Try.prog 64 = some (1, .nils) := by kernel_rfl
theorem esz_64 : elemSz Try.prog 64 = some (26, 4) := by kernel_rfl
theorem eby_64 : elemBy Try.prog 64 = true := by kernel_rfl
theorem isl_64 : isSl Try.prog 64 = true := by kernel_rfl
theorem usl_64 : Try.prog.underlying 64 = some (.slice 26) := by kernel_rfl
theorem tyk_75 : tyk Try.prog 75 = some (true, 4) := by kernel_rfl
theorem zk_75 : zeroK Try.prog 75 = some (4, .agg [.int .i64 0, .int .i64 0, .int .i64 0, .int .i64 0]) := by kernel_rfl
theorem fo_75_0 : fieldOff Try.prog 75 0 = some 0 := by kernel_rfl
theorem fo_75_1 : fieldOff Try.prog 75 1 = some 1 := by kernel_rfl
theorem fo_75_2 : fieldOff Try.prog 75 2 = some 2 := by kernel_rfl
theorem fo_75_3 : fieldOff Try.prog 75 3 = some 3 := by kernel_rfl
theorem tyk_76 : tyk Try.prog 76 = some (true, 4) := by kernel_rfl
theorem zk_76 : zeroK Try.prog 76 = some (4, .agg [.int .i64 0, .int .i64 0, .int .i64 0, .int .i64 0]) := by kernel_rfl
theorem fo_76_0 : fieldOff Try.prog 76 0 = some 0 := by kernel_rfl
theorem fo_76_1 : fieldOff Try.prog 76 1 = some 1 := by kernel_rfl
theorem fo_76_2 : fieldOff Try.prog 76 2 = some 2 := by kernel_rfl
theorem fo_76_3 : fieldOff Try.prog 76 3 = some 3 := by kernel_rfl
theorem fe_76 : flatStruct Try.prog 76 = some [0, 0, 0, 0] := by kernel_rfl
theorem pl_76 : placesK Try.prog 76 = some [(0, 1), (1, 1), (2, 1), (3, 1)] := by kernel_rfl
theorem tyk_77 : tyk Try.prog 77 = some (false, 1) := by kernel_rfl
theorem zk_77 : zeroK Try.prog 77 = some (1, .nils) := by kernel_rfl
theorem esz_77 : elemSz Try.prog 77 = some (91, 6) := by kernel_rfl
theorem eby_77 : elemBy Try.prog 77 = true := by kernel_rfl
theorem isl_77 : isSl Try.prog 77 = true := by kernel_rfl
theorem usl_77 : Try.prog.underlying 77 = some (.slice 91) := by kernel_rfl
theorem tyk_90 : tyk Try.prog 90 = some (true, 6) := by kernel_rfl
theorem zk_90 : zeroK Try.prog 90 = some (6, .agg [.int .i64 0, .int .i64 0, .int .i64 0, .bool false, .bool false, .int .i64 0]) := by kernel_rfl
theorem fo_90_0 : fieldOff Try.prog 90 0 = some 0 := by kernel_rfl
theorem fo_90_1 : fieldOff Try.prog 90 1 = some 1 := by kernel_rfl
theorem fo_90_2 : fieldOff Try.prog 90 2 = some 2 := by kernel_rfl
theorem fo_90_3 : fieldOff Try.prog 90 3 = some 3 := by kernel_rfl
theorem fo_90_4 : fieldOff Try.prog 90 4 = some 4 := by kernel_rfl
theorem fo_90_5 : fieldOff Try.prog 90 5 = some 5 := by kernel_rfl
theorem tyk_91 : tyk Try.prog 91 = some (true, 6) := by kernel_rfl
theorem zk_91 : zeroK Try.prog 91 = some (6, .agg [.int .i64 0, .int .i64 0, .int .i64 0, .bool false, .bool false, .int .i64 0]) := by kernel_rfl
theorem fo_91_0 : fieldOff Try.prog 91 0 = some 0 := by kernel_rfl
theorem fo_91_1 : fieldOff Try.prog 91 1 = some 1 := by kernel_rfl
theorem fo_91_2 : fieldOff Try.prog 91 2 = some 2 := by kernel_rfl
theorem fo_91_3 : fieldOff Try.prog 91 3 = some 3 := by kernel_rfl
theorem fo_91_4 : fieldOff Try.prog 91 4 = some 4 := by kernel_rfl
theorem fo_91_5 : fieldOff Try.prog 91 5 = some 5 := by kernel_rfl
theorem fe_91 : flatStruct Try.prog 91 = some [0, 0, 0, 1, 1, 0] := by kernel_rfl
theorem pl_91 : placesK Try.prog 91 = some [(0, 1), (1, 1), (2, 1), (3, 1), (4, 1), (5, 1)] := by kernel_rfl
theorem tyk_96 : tyk Try.prog 96 = some (false, 1) := by kernel_rfl
theorem zk_96 : zeroK Try.prog 96 = some (1, .nils) := by kernel_rfl
theorem esz_96 : elemSz Try.prog 96 = some (102, 3) := by kernel_rfl
theorem eby_96 : elemBy Try.prog 96 = true := by kernel_rfl
theorem isl_96 : isSl Try.prog 96 = true := by kernel_rfl
theorem usl_96 : Try.prog.underlying 96 = some (.slice 102) := by kernel_rfl
theorem tyk_101 : tyk Try.prog 101 = some (true, 3) := by kernel_rfl
theorem zk_101 : zeroK Try.prog 101 = some (3, .agg [.int .i64 0, .int .i64 0, .int .i64 0]) := by kernel_rfl
theorem fo_101_0 : fieldOff Try.prog 101 0 = some 0 := by kernel_rfl
theorem fo_101_1 : fieldOff Try.prog 101 1 = some 1 := by kernel_rfl
theorem fo_101_2 : fieldOff Try.prog 101 2 = some 2 := by kernel_rfl
theorem tyk_102 : tyk Try.prog 102 = some (true, 3) := by kernel_rfl
theorem zk_102 : zeroK Try.prog 102 = some (3, .agg [.int .i64 0, .int .i64 0, .int .i64 0]) := by kernel_rfl
theorem fo_102_0 : fieldOff Try.prog 102 0 = some 0 := by kernel_rfl
theorem fo_102_1 : fieldOff Try.prog 102 1 = some 1 := by kernel_rfl
theorem fo_102_2 : fieldOff Try.prog 102 2 = some 2 := by kernel_rfl
theorem fe_102 : flatStruct Try.prog 102 = some [0, 0, 0] := by kernel_rfl
theorem pl_102 : placesK Try.prog 102 = some [(0, 1), (1, 1), (2, 1)] := by kernel_rfl
theorem tyk_114 : tyk Try.prog 114 = some (false, 1) := by kernel_rfl
theorem zk_114 : zeroK Try.prog 114 = some (1, .nils) := by kernel_rfl
theorem esz_114 : elemSz Try.prog 114 = some (150, 2) := by kernel_rfl
theorem eby_114 : elemBy Try.prog 114 = true := by kernel_rfl
theorem isl_114 : isSl Try.prog 114 = true := by kernel_rfl
theorem usl_114 : Try.prog.underlying 114 = some (.slice 150) := by kernel_rfl
theorem tyk_149 : tyk Try.prog 149 = some (true, 2) := by kernel_rfl
theorem zk_149 : zeroK Try.prog 149 = some (2, .agg [.int .i64 0, .nils]) := by kernel_rfl
theorem fo_149_0 : fieldOff Try.prog 149 0 = some 0 := by kernel_rfl
theorem fo_149_1 : fieldOff Try.prog 149 1 = some 1 := by kernel_rfl
theorem tyk_150 : tyk Try.prog 150 = some (true, 2) := by kernel_rfl
theorem zk_150 : zeroK Try.prog 150 = some (2, .agg [.int .i64 0, .nils]) := by kernel_rfl
theorem fo_150_0 : fieldOff Try.prog 150 0 = some 0 := by kernel_rfl
theorem fo_150_1 : fieldOff Try.prog 150 1 = some 1 := by kernel_rfl
theorem pl_150 : placesK Try.prog 150 = some [(0, 1), (1, 1)] := by kernel_rfl
theorem tyk_160 : tyk Try.prog 160 = some (false, 1) := by kernel_rfl
theorem tyk_161 : tyk Try.prog 161 = some (false, 1) := by kernel_rfl
theorem zk_161 : zeroK Try.prog 161 = some (1, .int .u64 0) := by kernel_rfl
theorem und_161 : Try.prog.underlying 161 = some (.int .u64) := by kernel_rfl
theorem tyk_162 : tyk Try.prog 162 = some (true, 3) := by kernel_rfl
theorem zk_162 : zeroK Try.prog 162 = some (3, .agg [.nils, .int .i64 0, .int .u64 0]) := by kernel_rfl
theorem fo_162_0 : fieldOff Try.prog 162 0 = some 0 := by kernel_rfl
theorem fo_162_1 : fieldOff Try.prog 162 1 = some 1 := by kernel_rfl
theorem fo_162_2 : fieldOff Try.prog 162 2 = some 2 := by kernel_rfl
theorem tyk_163 : tyk Try.prog 163 = some (true, 3) := by kernel_rfl
theorem zk_163 : zeroK Try.prog 163 = some (3, .agg [.nils, .int .i64 0, .int .u64 0]) := by kernel_rfl
theorem fo_163_0 : fieldOff Try.prog 163 0 = some 0 := by kernel_rfl
theorem fo_163_1 : fieldOff Try.prog 163 1 = some 1 := by kernel_rfl
theorem fo_163_2 : fieldOff Try.prog 163 2 = some 2 := by kernel_rfl
theorem pl_163 : placesK Try.prog 163 = some [(0, 1), (1, 1), (2, 1)] := by kernel_rfl
theorem tyk_235 : tyk Try.prog 235 = some (false, 1) := by kernel_rfl
theorem zk_235 : zeroK Try.prog 235 = some (1, .int .u64 0) := by kernel_rfl
theorem und_235 : Try.prog.underlying 235 = some (.int .u64) := by kernel_rfl
theorem tyk_255 : tyk Try.prog 255 = some (false, 1) := by kernel_rfl
theorem zk_255 : zeroK Try.prog 255 = some (1, .int .i64 0) := by kernel_rfl
theorem und_255 : Try.prog.underlying 255 = some (.int .i64) := by kernel_rfl
theorem tyk_262 : tyk Try.prog 262 = some (false, 1) := by kernel_rfl
theorem zk_262 : zeroK Try.prog 262 = some (1, .int .u32 0) := by kernel_rfl
theorem und_262 : Try.prog.underlying 262 = some (.int .u32) := by kernel_rfl
theorem tyk_266 : tyk Try.prog 266 = some (false, 1) := by kernel_rfl
theorem zk_266 : zeroK Try.prog 266 = some (1, .int .u64 0) := by kernel_rfl
theorem und_266 : Try.prog.underlying 266 = some (.int .u64) := by kernel_rfl
theorem tyk_270 : tyk Try.prog 270 = some (false, 1) := by kernel_rfl
theorem tyk_274 : tyk Try.prog 274 = some (false, 1) := by kernel_rfl
theorem tyk_285 : tyk Try.prog 285 = some (false, 1) := by kernel_rfl
theorem cok_3 : callOK Try.prog 3 = true := by kernel_rfl
theorem cok_4 : callOK Try.prog 4 = true := by kernel_rfl
theorem cok_5 : callOK Try.prog 5 = true := by kernel_rfl
theorem cok_6 : callOK Try.prog 6 = true := by kernel_rfl
theorem cok_7 : callOK Try.prog 7 = true := by kernel_rfl
theorem cok_8 : callOK Try.prog 8 = true := by kernel_rfl
theorem cok_9 : callOK Try.prog 9 = true := by kernel_rfl
theorem cok_10 : callOK Try.prog 10 = true := by kernel_rfl
theorem cok_11 : callOK Try.prog 11 = true := by kernel_rfl
theorem cok_12 : callOK Try.prog 12 = true := by kernel_rfl
theorem cok_13 : callOK Try.prog 13 = true := by kernel_rfl
theorem cok_14 : callOK Try.prog 14 = true := by kernel_rfl
theorem cok_15 : callOK Try.prog 15 = true := by kernel_rfl
theorem cok_16 : callOK Try.prog 16 = true := by kernel_rfl
theorem cok_17 : callOK Try.prog 17 = true := by kernel_rfl
theorem cok_18 : callOK Try.prog 18 = true := by kernel_rfl
theorem cok_19 : callOK Try.prog 19 = true := by kernel_rfl
theorem cok_20 : callOK Try.prog 20 = true := by kernel_rfl
theorem cok_21 : callOK Try.prog 21 = true := by kernel_rfl
theorem cok_22 : callOK Try.prog 22 = true := by kernel_rfl
theorem cok_23 : callOK Try.prog 23 = true := by kernel_rfl
theorem cok_24 : callOK Try.prog 24 = true := by kernel_rfl
theorem cok_25 : callOK Try.prog 25 = true := by kernel_rfl
theorem cok_26 : callOK Try.prog 26 = true := by kernel_rfl
theorem cok_27 : callOK Try.prog 27 = true := by kernel_rfl
theorem cok_28 : callOK Try.prog 28 = true := by kernel_rfl
theorem cok_29 : callOK Try.prog 29 = true := by kernel_rfl
theorem cok_30 : callOK Try.prog 30 = true := by kernel_rfl
theorem cok_31 : callOK Try.prog 31 = true := by kernel_rfl
theorem cok_32 : callOK Try.prog 32 = true := by kernel_rfl
theorem cok_33 : callOK Try.prog 33 = true := by kernel_rfl
theorem cok_34 : callOK Try.prog 34 = true := by kernel_rfl
theorem cok_35 : callOK Try.prog 35 = true := by kernel_rfl
theorem cok_36 : callOK Try.prog 36 = true := by kernel_rfl
theorem cok_37 : callOK Try.prog 37 = true := by kernel_rfl
theorem cok_38 : callOK Try.prog 38 = true := by kernel_rfl
theorem cok_39 : callOK Try.prog 39 = true := by kernel_rfl
theorem cok_40 : callOK Try.prog 40 = true := by kernel_rfl
theorem cok_41 : callOK Try.prog 41 = true := by kernel_rfl
theorem cok_42 : callOK Try.prog 42 = true := by kernel_rfl
theorem cok_43 : callOK Try.prog 43 = true := by kernel_rfl
theorem cok_44 : callOK Try.prog 44 = true := by kernel_rfl
theorem cok_45 : callOK Try.prog 45 = true := by kernel_rfl
theorem cok_46 : callOK Try.prog 46 = true := by kernel_rfl
theorem cok_47 : callOK Try.prog 47 = true := by kernel_rfl
theorem cok_48 : callOK Try.prog 48 = true := by kernel_rfl
theorem cok_49 : callOK Try.prog 49 = true := by kernel_rfl
theorem cok_50 : callOK Try.prog 50 = true := by kernel_rfl
theorem cok_51 : callOK Try.prog 51 = true := by kernel_rfl
theorem cok_52 : callOK Try.prog 52 = true := by kernel_rfl
theorem cok_53 : callOK Try.prog 53 = true := by kernel_rfl
theorem cok_54 : callOK Try.prog 54 = true := by kernel_rfl
theorem cok_55 : callOK Try.prog 55 = true := by kernel_rfl
theorem cok_56 : callOK Try.prog 56 = true := by kernel_rfl
theorem cok_57 : callOK Try.prog 57 = true := by kernel_rfl
theorem cok_58 : callOK Try.prog 58 = true := by kernel_rfl
theorem cok_59 : callOK Try.prog 59 = true := by kernel_rfl
theorem cok_60 : callOK Try.prog 60 = true := by kernel_rfl
theorem cok_61 : callOK Try.prog 61 = true := by kernel_rfl
theorem cok_62 : callOK Try.prog 62 = true := by kernel_rfl
theorem cok_63 : callOK Try.prog 63 = true := by kernel_rfl
theorem cok_64 : callOK Try.prog 64 = true := by kernel_rfl
theorem cok_65 : callOK Try.prog 65 = true := by kernel_rfl
theorem cok_66 : callOK Try.prog 66 = true := by kernel_rfl
theorem cok_67 : callOK Try.prog 67 = true := by kernel_rfl
theorem cok_68 : callOK Try.prog 68 = true := by kernel_rfl
theorem cok_69 : callOK Try.prog 69 = true := by kernel_rfl
theorem cok_70 : callOK Try.prog 70 = true := by kernel_rfl
theorem cok_71 : callOK Try.prog 71 = true := by kernel_rfl
theorem cok_72 : callOK Try.prog 72 = true := by kernel_rfl
theorem cok_73 : callOK Try.prog 73 = true := by kernel_rfl
theorem cok_74 : callOK Try.prog 74 = true := by kernel_rfl
theorem cok_75 : callOK Try.prog 75 = true := by kernel_rfl
theorem cok_76 : callOK Try.prog 76 = true := by kernel_rfl
theorem cok_77 : callOK Try.prog 77 = true := by kernel_rfl
theorem cok_78 : callOK Try.prog 78 = true := by kernel_rfl
theorem cok_79 : callOK Try.prog 79 = true := by kernel_rfl
theorem cok_80 : callOK Try.prog 80 = true := by kernel_rfl
theorem cok_81 : callOK Try.prog 81 = true := by kernel_rfl
theorem cok_82 : callOK Try.prog 82 = true := by kernel_rfl
theorem cok_83 : callOK Try.prog 83 = true := by kernel_rfl
theorem cok_84 : callOK Try.prog 84 = true := by kernel_rfl
theorem cok_85 : callOK Try.prog 85 = true := by kernel_rfl
theorem cok_86 : callOK Try.prog 86 = true := by kernel_rfl
theorem cok_87 : callOK Try.prog 87 = true := by kernel_rfl
theorem cok_88 : callOK Try.prog 88 = true := by kernel_rfl
theorem cok_89 : callOK Try.prog 89 = true := by kernel_rfl
theorem cok_90 : callOK Try.prog 90 = true := by kernel_rfl
theorem cok_91 : callOK Try.prog 91 = true := by kernel_rfl
theorem cok_92 : callOK Try.prog 92 = true := by kernel_rfl
theorem cok_93 : callOK Try.prog 93 = true := by kernel_rfl
theorem cok_94 : callOK Try.prog 94 = true := by kernel_rfl
theorem cok_95 : callOK Try.prog 95 = true := by kernel_rfl
theorem cok_96 : callOK Try.prog 96 = true := by kernel_rfl
theorem cok_97 : callOK Try.prog 97 = true := by kernel_rfl
theorem cok_98 : callOK Try.prog 98 = true := by kernel_rfl
theorem cok_99 : callOK Try.prog 99 = true := by kernel_rfl
theorem cok_100 : callOK Try.prog 100 = true := by kernel_rfl
theorem cok_101 : callOK Try.prog 101 = true := by kernel_rfl
theorem cok_102 : callOK Try.prog 102 = true := by kernel_rfl
theorem cok_103 : callOK Try.prog 103 = true := by kernel_rfl
theorem cok_104 : callOK Try.prog 104 = true := by kernel_rfl
theorem cok_105 : callOK Try.prog 105 = true := by kernel_rfl
theorem cok_106 : callOK Try.prog 106 = true := by kernel_rfl
theorem cok_107 : callOK Try.prog 107 = true := by kernel_rfl
theorem cok_108 : callOK Try.prog 108 = true := by kernel_rfl
theorem cok_109 : callOK Try.prog 109 = true := by kernel_rfl
theorem cok_110 : callOK Try.prog 110 = true := by kernel_rfl
theorem cok_111 : callOK Try.prog 111 = true := by kernel_rfl
theorem cok_112 : callOK Try.prog 112 = true := by kernel_rfl
theorem cok_113 : callOK Try.prog 113 = true := by kernel_rfl
theorem cok_114 : callOK Try.prog 114 = true := by kernel_rfl
theorem cok_115 : callOK Try.prog 115 = true := by kernel_rfl
theorem cok_116 : callOK Try.prog 116 = true := by kernel_rfl
theorem cok_117 : callOK Try.prog 117 = true := by kernel_rfl
theorem cok_118 : callOK Try.prog 118 = true := by kernel_rfl
theorem cok_119 : callOK Try.prog 119 = true := by kernel_rfl
theorem cok_120 : callOK Try.prog 120 = true := by kernel_rfl
theorem cok_121 : callOK Try.prog 121 = true := by kernel_rfl
theorem cok_122 : callOK Try.prog 122 = true := by kernel_rfl
theorem cok_123 : callOK Try.prog 123 = true := by kernel_rfl
theorem cok_124 : callOK Try.prog 124 = true := by kernel_rfl
theorem cok_125 : callOK Try.prog 125 = true := by kernel_rfl
theorem cok_126 : callOK Try.prog 126 = true := by kernel_rfl
theorem cok_127 : callOK Try.prog 127 = true := by kernel_rfl
theorem cok_128 : callOK Try.prog 128 = true := by kernel_rfl
theorem cok_129 : callOK Try.prog 129 = true := by kernel_rfl
theorem cok_130 : callOK Try.prog 130 = true := by kernel_rfl
theorem cok_131 : callOK Try.prog 131 = true := by kernel_rfl
theorem cok_132 : callOK Try.prog 132 = true := by kernel_rfl
theorem cok_133 : callOK Try.prog 133 = true := by kernel_rfl
theorem cok_134 : callOK Try.prog 134 = true := by kernel_rfl
theorem cok_135 : callOK Try.prog 135 = true := by kernel_rfl
theorem cok_136 : callOK Try.prog 136 = true := by kernel_rfl
theorem cok_137 : callOK Try.prog 137 = true := by kernel_rfl
theorem cok_138 : callOK Try.prog 138 = true := by kernel_rfl
theorem cok_139 : callOK Try.prog 139 = true := by kernel_rfl
theorem cok_140 : callOK Try.prog 140 = true := by kernel_rfl
theorem cok_141 : callOK Try.prog 141 = true := by kernel_rfl
theorem cok_142 : callOK Try.prog 142 = true := by kernel_rfl
theorem cok_143 : callOK Try.prog 143 = true := by kernel_rfl
theorem cok_144 : callOK Try.prog 144 = true := by kernel_rfl
theorem cok_145 : callOK Try.prog 145 = true := by kernel_rfl
theorem cok_146 : callOK Try.prog 146 = true := by kernel_rfl
theorem cok_147 : callOK Try.prog 147 = true := by kernel_rfl
theorem cok_148 : callOK Try.prog 148 = true := by kernel_rfl
theorem cok_149 : callOK Try.prog 149 = true := by kernel_rfl
theorem cok_150 : callOK Try.prog 150 = true := by kernel_rfl
theorem cok_151 : callOK Try.prog 151 = true := by kernel_rfl
theorem cok_152 : callOK Try.prog 152 = true := by kernel_rfl
theorem cok_153 : callOK Try.prog 153 = true := by kernel_rfl
theorem cok_154 : callOK Try.prog 154 = true := by kernel_rfl
theorem cok_155 : callOK Try.prog 155 = true := by kernel_rfl
theorem cok_156 : callOK Try.prog 156 = true := by kernel_rfl
theorem cok_157 : callOK Try.prog 157 = true := by kernel_rfl
theorem cok_158 : callOK Try.prog 158 = true := by kernel_rfl
theorem cok_159 : callOK Try.prog 159 = true := by kernel_rfl
theorem cok_160 : callOK Try.prog 160 = true := by kernel_rfl
theorem cok_161 : callOK Try.prog 161 = true := by kernel_rfl
theorem cok_162 : callOK Try.prog 162 = true := by kernel_rfl
theorem cok_163 : callOK Try.prog 163 = true := by kernel_rfl
theorem cok_164 : callOK Try.prog 164 = true := by kernel_rfl
theorem cok_165 : callOK Try.prog 165 = true := by kernel_rfl
theorem cok_166 : callOK Try.prog 166 = true := by kernel_rfl
theorem cok_167 : callOK Try.prog 167 = true := by kernel_rfl
theorem cok_168 : callOK Try.prog 168 = true := by kernel_rfl
theorem cok_169 : callOK Try.prog 169 = true := by kernel_rfl
theorem cok_170 : callOK Try.prog 170 = true := by kernel_rfl
theorem cok_171 : callOK Try.prog 171 = true := by kernel_rfl
theorem cok_172 : callOK Try.prog 172 = true := by kernel_rfl
theorem cok_173 : callOK Try.prog 173 = true := by kernel_rfl
theorem cok_174 : callOK Try.prog 174 = true := by kernel_rfl
theorem cok_175 : callOK Try.prog 175 = true := by kernel_rfl
theorem cok_176 : callOK Try.prog 176 = true := by kernel_rfl
theorem cok_177 : callOK Try.prog 177 = true := by kernel_rfl
theorem cok_178 : callOK Try.prog 178 = true := by kernel_rfl
theorem cok_179 : callOK Try.prog 179 = true := by kernel_rfl
theorem cok_180 : callOK Try.prog 180 = true := by kernel_rfl
theorem cok_181 : callOK Try.prog 181 = true := by kernel_rfl
theorem cok_182 : callOK Try.prog 182 = true := by kernel_rfl
theorem cok_183 : callOK Try.prog 183 = true := by kernel_rfl
theorem cok_184 : callOK Try.prog 184 = true := by kernel_rfl
theorem cok_185 : callOK Try.prog 185 = true := by kernel_rfl
theorem cok_186 : callOK Try.prog 186 = true := by kernel_rfl
theorem cok_187 : callOK Try.prog 187 = true := by kernel_rfl
theorem cok_188 : callOK Try.prog 188 = true := by kernel_rfl
theorem cok_189 : callOK Try.prog 189 = true := by kernel_rfl
theorem cok_190 : callOK Try.prog 190 = true := by kernel_rfl
theorem cok_191 : callOK Try.prog 191 = true := by kernel_rfl
theorem cok_192 : callOK Try.prog 192 = true := by kernel_rfl
theorem cok_193 : callOK Try.prog 193 = true := by kernel_rfl
theorem cok_194 : callOK Try.prog 194 = true := by kernel_rfl
theorem cok_195 : callOK Try.prog 195 = true := by kernel_rfl
theorem cok_196 : callOK Try.prog 196 = true := by kernel_rfl
theorem cok_197 : callOK Try.prog 197 = true := by kernel_rfl
theorem cok_198 : callOK Try.prog 198 = true := by kernel_rfl
theorem cok_199 : callOK Try.prog 199 = true := by kernel_rfl
theorem cok_200 : callOK Try.prog 200 = true := by kernel_rfl
theorem cok_201 : callOK Try.prog 201 = true := by kernel_rfl
theorem cok_202 : callOK Try.prog 202 = true := by kernel_rfl
theorem cok_203 : callOK Try.prog 203 = true := by kernel_rfl
theorem cok_204 : callOK Try.prog 204 = true := by kernel_rfl
theorem cok_205 : callOK Try.prog 205 = true := by kernel_rfl
theorem cok_206 : callOK Try.prog 206 = true := by kernel_rfl
theorem cok_207 : callOK Try.prog 207 = true := by kernel_rfl
theorem cok_208 : callOK Try.prog 208 = true := by kernel_rfl
theorem cok_209 : callOK Try.prog 209 = true := by kernel_rfl
theorem cok_210 : callOK Try.prog 210 = true := by kernel_rfl
theorem cok_211 : callOK Try.prog 211 = true := by kernel_rfl
theorem cok_212 : callOK Try.prog 212 = true := by kernel_rfl
theorem cok_213 : callOK Try.prog 213 = true := by kernel_rfl
theorem cok_214 : callOK Try.prog 214 = true := by kernel_rfl
theorem cok_215 : callOK Try.prog 215 = true := by kernel_rfl
theorem cok_216 : callOK Try.prog 216 = true := by kernel_rfl
theorem cok_217 : callOK Try.prog 217 = true := by kernel_rfl
theorem cok_218 : callOK Try.prog 218 = true := by kernel_rfl
theorem cok_219 : callOK Try.prog 219 = true := by kernel_rfl
theorem cok_220 : callOK Try.prog 220 = true := by kernel_rfl
theorem cok_221 : callOK Try.prog 221 = true := by kernel_rfl
theorem cok_222 : callOK Try.prog 222 = true := by kernel_rfl
theorem cok_223 : callOK Try.prog 223 = true := by kernel_rfl
theorem cok_224 : callOK Try.prog 224 = true := by kernel_rfl
theorem cok_225 : callOK Try.prog 225 = true := by kernel_rfl
theorem cok_226 : callOK Try.prog 226 = true := by kernel_rfl
theorem cok_227 : callOK Try.prog 227 = true := by kernel_rfl
theorem cok_228 : callOK Try.prog 228 = true := by kernel_rfl
theorem cok_229 : callOK Try.prog 229 = true := by kernel_rfl
theorem cok_230 : callOK Try.prog 230 = true := by kernel_rfl
theorem cok_231 : callOK Try.prog 231 = true := by kernel_rfl
theorem cok_232 : callOK Try.prog 232 = true := by kernel_rfl
theorem cok_233 : callOK Try.prog 233 = true := by kernel_rfl
theorem cok_234 : callOK Try.prog 234 = true := by kernel_rfl
theorem cok_235 : callOK Try.prog 235 = true := by kernel_rfl
theorem cok_236 : callOK Try.prog 236 = true := by kernel_rfl
theorem cok_237 : callOK Try.prog 237 = true := by kernel_rfl
theorem cok_238 : callOK Try.prog 238 = true := by kernel_rfl
theorem cok_239 : callOK Try.prog 239 = true := by kernel_rfl
theorem cok_240 : callOK Try.prog 240 = true := by kernel_rfl
theorem cok_241 : callOK Try.prog 241 = true := by kernel_rfl
theorem cok_242 : callOK Try.prog 242 = true := by kernel_rfl
theorem cok_243 : callOK Try.prog 243 = true := by kernel_rfl
theorem cok_244 : callOK Try.prog 244 = true := by kernel_rfl
theorem cok_245 : callOK Try.prog 245 = true := by kernel_rfl
theorem cok_246 : callOK Try.prog 246 = true := by kernel_rfl
theorem cok_247 : callOK Try.prog 247 = true := by kernel_rfl
theorem cok_248 : callOK Try.prog 248 = true := by kernel_rfl
theorem cok_249 : callOK Try.prog 249 = true := by kernel_rfl
theorem cok_250 : callOK Try.prog 250 = true := by kernel_rfl
theorem cok_251 : callOK Try.prog 251 = true := by kernel_rfl
theorem cok_252 : callOK Try.prog 252 = true := by kernel_rfl
theorem cok_253 : callOK Try.prog 253 = true := by kernel_rfl
theorem cok_254 : callOK Try.prog 254 = true := by kernel_rfl
theorem cok_255 : callOK Try.prog 255 = true := by kernel_rfl
theorem cok_256 : callOK Try.prog 256 = true := by kernel_rfl
theorem cok_257 : callOK Try.prog 257 = true := by kernel_rfl
theorem cok_258 : callOK Try.prog 258 = true := by kernel_rfl
theorem cok_259 : callOK Try.prog 259 = true := by kernel_rfl
theorem cok_260 : callOK Try.prog 260 = true := by kernel_rfl
theorem cok_261 : callOK Try.prog 261 = true := by kernel_rfl
theorem cok_262 : callOK Try.prog 262 = true := by kernel_rfl
theorem cok_263 : callOK Try.prog 263 = true := by kernel_rfl
theorem cok_264 : callOK Try.prog 264 = true := by kernel_rfl
theorem cok_265 : callOK Try.prog 265 = true := by kernel_rfl
theorem cok_266 : callOK Try.prog 266 = true := by kernel_rfl
theorem cok_267 : callOK Try.prog 267 = true := by kernel_rfl
theorem cok_268 : callOK Try.prog 268 = true := by kernel_rfl
theorem cok_269 : callOK Try.prog 269 = true := by kernel_rfl
theorem cok_270 : callOK Try.prog 270 = true := by kernel_rfl
theorem cok_271 : callOK Try.prog 271 = true := by kernel_rfl
theorem cok_272 : callOK Try.prog 272 = true := by kernel_rfl
theorem cok_273 : callOK Try.prog 273 = true := by kernel_rfl
theorem cok_274 : callOK Try.prog 274 = true := by kernel_rfl
theorem cok_276 : callOK Try.prog 276 = true := by kernel_rfl
theorem cok_277 : callOK Try.prog 277 = true := by kernel_rfl
theorem cok_278 : callOK Try.prog 278 = true := by kernel_rfl
theorem cok_279 : callOK Try.prog 279 = true := by kernel_rfl
theorem cok_280 : callOK Try.prog 280 = true := by kernel_rfl
theorem cok_281 : callOK Try.prog 281 = true := by kernel_rfl
theorem cok_282 : callOK Try.prog 282 = true := by kernel_rfl
theorem cok_283 : callOK Try.prog 283 = true := by kernel_rfl
theorem cok_284 : callOK Try.prog 284 = true := by kernel_rfl
theorem cok_285 : callOK Try.prog 285 = true := by kernel_rfl
theorem cok_286 : callOK Try.prog 286 = true := by kernel_rfl
theorem cok_287 : callOK Try.prog 287 = true := by kernel_rfl
theorem cok_288 : callOK Try.prog 288 = true := by kernel_rfl
theorem cok_289 : callOK Try.prog 289 = true := by kernel_rfl
theorem cok_290 : callOK Try.prog 290 = true := by kernel_rfl
theorem cok_291 : callOK Try.prog 291 = true := by kernel_rfl
theorem cok_292 : callOK Try.prog 292 = true := by kernel_rfl
theorem cok_294 : callOK Try.prog 294 = true := by kernel_rfl
theorem cok_295 : callOK Try.prog 295 = true := by kernel_rfl
theorem cok_296 : callOK Try.prog 296 = true := by kernel_rfl
theorem cok_298 : callOK Try.prog 298 = true := by kernel_rfl
theorem cok_299 : callOK Try.prog 299 = true := by kernel_rfl
theorem cok_300 : callOK Try.prog 300 = true := by kernel_rfl
theorem cok_301 : callOK Try.prog 301 = true := by kernel_rfl
theorem cok_302 : callOK Try.prog 302 = true := by kernel_rfl
theorem cok_303 : callOK Try.prog 303 = true := by kernel_rfl
theorem cok_304 : callOK Try.prog 304 = true := by kernel_rfl
theorem cok_305 : callOK Try.prog 305 = true := by kernel_rfl
theorem cok_306 : callOK Try.prog 306 = true := by kernel_rfl
theorem cok_307 : callOK Try.prog 307 = true := by kernel_rfl
theorem cok_308 : callOK Try.prog 308 = true := by kernel_rfl
theorem cok_309 : callOK Try.prog 309 = true := by kernel_rfl
theorem cok_310 : callOK Try.prog 310 = true := by kernel_rfl
theorem cok_311 : callOK Try.prog 311 = true := by kernel_rfl
theorem cok_312 : callOK Try.prog 312 = true := by kernel_rfl
theorem cok_313 : callOK Try.prog 313 = true := by kernel_rfl
theorem cok_314 : callOK Try.prog 314 = true := by kernel_rfl
theorem cok_315 : callOK Try.prog 315 = true := by kernel_rfl
theorem cok_316 : callOK Try.prog 316 = true := by kernel_rfl
theorem cok_317 : callOK Try.prog 317 = true := by kernel_rfl
theorem cok_318 : callOK Try.prog 318 = true := by kernel_rfl
theorem cok_319 : callOK Try.prog 319 = true := by kernel_rfl
theorem cok_320 : callOK Try.prog 320 = true := by kernel_rfl
theorem cok_321 : callOK Try.prog 321 = true := by kernel_rfl
theorem cok_322 : callOK Try.prog 322 = true := by kernel_rfl
theorem cok_323 : callOK Try.prog 323 = true := by kernel_rfl
theorem cok_324 : callOK Try.prog 324 = true := by kernel_rfl
theorem cok_325 : callOK Try.prog 325 = true := by kernel_rfl
theorem cok_326 : callOK Try.prog 326 = true := by kernel_rfl
theorem cok_327 : callOK Try.prog 327 = true := by kernel_rfl
theorem cok_328 : callOK Try.prog 328 = true := by kernel_rfl
end Go.Proofs.Ythffmnpbonkpaaa
