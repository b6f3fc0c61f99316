/-
  Closed facts on the types and functions of the translation, each by the kernel. No condition.
-/
import Derived.Test.YteocnbeefedbkaaProg
import Derived.Test.YteocnbeefedbkaaWf
import Derived.KernelRfl
namespace Go.Proofs.Yteocnbeefedbkaa
open Go.VS
theorem mixed_orders : Try.prog.follows .mixedOrders = true := by kernel_rfl
theorem tyk_2 : tyk Try.prog 2 = some (false, 1) := by kernel_rfl
theorem zk_2 : zeroK Try.prog 2 = some (1, .int .i64 0) := by kernel_rfl
theorem und_2 : Try.prog.underlying 2 = some (.int .i64) := by kernel_rfl
theorem tyk_3 : tyk Try.prog 3 = some (false, 1) := by kernel_rfl
theorem zk_3 : zeroK Try.prog 3 = some (1, .int .i64 0) := by kernel_rfl
theorem und_3 : Try.prog.underlying 3 = some (.int .i64) := by kernel_rfl
theorem tyk_4 : tyk Try.prog 4 = some (false, 1) := by kernel_rfl
theorem zk_4 : zeroK Try.prog 4 = some (1, .bool false) := by kernel_rfl
theorem und_4 : Try.prog.underlying 4 = some .bool := by kernel_rfl
theorem tyk_5 : tyk Try.prog 5 = some (false, 1) := by kernel_rfl
theorem zk_5 : zeroK Try.prog 5 = some (1, .int .u8 0) := by kernel_rfl
theorem und_5 : Try.prog.underlying 5 = some (.int .u8) := by kernel_rfl
theorem tyk_9 : tyk Try.prog 9 = some (false, 1) := by kernel_rfl
theorem zk_9 : zeroK Try.prog 9 = some (1, .str []) := by kernel_rfl
theorem istr_9 : isStr Try.prog 9 = true := by kernel_rfl
theorem tyk_12 : tyk Try.prog 12 = some (false, 1) := by kernel_rfl
theorem zk_12 : zeroK Try.prog 12 = some (1, .int .u64 0) := by kernel_rfl
theorem und_12 : Try.prog.underlying 12 = some (.int .u64) := by kernel_rfl
theorem tyk_13 : tyk Try.prog 13 = some (true, 2) := by kernel_rfl
theorem zk_13 : zeroK Try.prog 13 = some (2, .agg [.str [], .int .u64 0]) := by kernel_rfl
theorem fo_13_0 : fieldOff Try.prog 13 0 = some 0 := by kernel_rfl
theorem fo_13_1 : fieldOff Try.prog 13 1 = some 1 := by kernel_rfl
theorem tyk_21 : tyk Try.prog 21 = some (false, 1) := by kernel_rfl
theorem zk_21 : zeroK Try.prog 21 = some (1, .int .i32 0) := by kernel_rfl
theorem und_21 : Try.prog.underlying 21 = some (.int .i32) := by kernel_rfl
theorem tyk_22 : tyk Try.prog 22 = some (false, 1) := by kernel_rfl
theorem zk_22 : zeroK Try.prog 22 = some (1, .nils) := by kernel_rfl
theorem esz_22 : elemSz Try.prog 22 = some (5, 1) := by kernel_rfl
theorem eby_22 : elemBy Try.prog 22 = true := by kernel_rfl
theorem isl_22 : isSl Try.prog 22 = true := by kernel_rfl
theorem usl_22 : Try.prog.underlying 22 = some (.slice 5) := by kernel_rfl
theorem tyk_24 : tyk Try.prog 24 = some (false, 1) := by kernel_rfl
theorem zk_24 : zeroK Try.prog 24 = some (1, .nils) := by kernel_rfl
theorem esz_24 : elemSz Try.prog 24 = some (3, 1) := by kernel_rfl
theorem eby_24 : elemBy Try.prog 24 = true := by kernel_rfl
theorem isl_24 : isSl Try.prog 24 = true := by kernel_rfl
theorem usl_24 : Try.prog.underlying 24 = some (.slice 3) := by kernel_rfl
theorem tyk_34 : tyk Try.prog 34 = some (false, 1) := by kernel_rfl
theorem zk_34 : zeroK Try.prog 34 = some (1, .nils) := by kernel_rfl
theorem esz_34 : elemSz Try.prog 34 = some (41, 4) := by kernel_rfl
theorem eby_34 : elemBy Try.prog 34 = true := by kernel_rfl
theorem isl_34 : isSl Try.prog 34 = true := by kernel_rfl
theorem usl_34 : Try.prog.underlying 34 = some (.slice 41) := by kernel_rfl
theorem tyk_39 : tyk Try.prog 39 = some (false, 1) := by kernel_rfl
theorem zk_39 : zeroK Try.prog 39 = some (1, .nils) := by kernel_rfl
theorem esz_39 : elemSz Try.prog 39 = some (75, 2) := by kernel_rfl
theorem eby_39 : elemBy Try.prog 39 = true := by kernel_rfl
theorem isl_39 : isSl Try.prog 39 = true := by kernel_rfl
theorem usl_39 : Try.prog.underlying 39 = some (.slice 75) := by kernel_rfl
theorem tyk_40 : tyk Try.prog 40 = some (true, 4) := by kernel_rfl
theorem zk_40 : zeroK Try.prog 40 = some (4, .agg [.int .i64 0, .int .i64 0, .int .i64 0, .nils]) := by kernel_rfl
theorem fo_40_0 : fieldOff Try.prog 40 0 = some 0 := by kernel_rfl
theorem fo_40_1 : fieldOff Try.prog 40 1 = some 1 := by kernel_rfl
theorem fo_40_2 : fieldOff Try.prog 40 2 = some 2 := by kernel_rfl
theorem fo_40_3 : fieldOff Try.prog 40 3 = some 3 := by kernel_rfl
theorem tyk_41 : tyk Try.prog 41 = some (true, 4) := by kernel_rfl
theorem zk_41 : zeroK Try.prog 41 = some (4, .agg [.int .i64 0, .int .i64 0, .int .i64 0, .nils]) := by kernel_rfl
theorem fo_41_0 : fieldOff Try.prog 41 0 = some 0 := by kernel_rfl
theorem fo_41_1 : fieldOff Try.prog 41 1 = some 1 := by kernel_rfl
theorem fo_41_2 : fieldOff Try.prog 41 2 = some 2 := by kernel_rfl
theorem fo_41_3 : fieldOff Try.prog 41 3 = some 3 := by kernel_rfl
theorem pl_41 : placesK Try.prog 41 = some [(0, 1), (1, 1), (2, 1), (3, 1)] := by kernel_rfl
theorem tyk_46 : tyk Try.prog 46 = some (false, 1) := by kernel_rfl
theorem tyk_47 : tyk Try.prog 47 = some (false, 1) := by kernel_rfl
theorem zk_47 : zeroK Try.prog 47 = some (1, .int .u64 0) := by kernel_rfl
theorem und_47 : Try.prog.underlying 47 = some (.int .u64) := by kernel_rfl
theorem tyk_48 : tyk Try.prog 48 = some (true, 3) := by kernel_rfl
theorem zk_48 : zeroK Try.prog 48 = some (3, .agg [.nils, .int .i64 0, .int .u64 0]) := by kernel_rfl
theorem fo_48_0 : fieldOff Try.prog 48 0 = some 0 := by kernel_rfl
theorem fo_48_1 : fieldOff Try.prog 48 1 = some 1 := by kernel_rfl
theorem fo_48_2 : fieldOff Try.prog 48 2 = some 2 := by kernel_rfl
theorem tyk_49 : tyk Try.prog 49 = some (true, 3) := by kernel_rfl
theorem zk_49 : zeroK Try.prog 49 = some (3, .agg [.nils, .int .i64 0, .int .u64 0]) := by kernel_rfl
theorem fo_49_0 : fieldOff Try.prog 49 0 = some 0 := by kernel_rfl
theorem fo_49_1 : fieldOff Try.prog 49 1 = some 1 := by kernel_rfl
theorem fo_49_2 : fieldOff Try.prog 49 2 = some 2 := by kernel_rfl
theorem pl_49 : placesK Try.prog 49 = some [(0, 1), (1, 1), (2, 1)] := by kernel_rfl
theorem tyk_72 : tyk Try.prog 72 = some (false, 1) := by kernel_rfl
theorem zk_72 : zeroK Try.prog 72 = some (1, .int .u64 0) := by kernel_rfl
theorem und_72 : Try.prog.underlying 72 = some (.int .u64) := by kernel_rfl
theorem tyk_74 : tyk Try.prog 74 = some (true, 2) := by kernel_rfl
theorem zk_74 : zeroK Try.prog 74 = some (2, .agg [.int .i64 0, .int .i64 0]) := by kernel_rfl
theorem fo_74_0 : fieldOff Try.prog 74 0 = some 0 := by kernel_rfl
theorem fo_74_1 : fieldOff Try.prog 74 1 = some 1 := by kernel_rfl
theorem tyk_75 : tyk Try.prog 75 = some (true, 2) := by kernel_rfl
theorem zk_75 : zeroK Try.prog 75 = some (2, .agg [.int .i64 0, .int .i64 0]) := by kernel_rfl
theorem fo_75_0 : fieldOff Try.prog 75 0 = some 0 := by kernel_rfl
theorem fo_75_1 : fieldOff Try.prog 75 1 = some 1 := by kernel_rfl
theorem fe_75 : flatStruct Try.prog 75 = some [0, 0] := by kernel_rfl
theorem pl_75 : placesK Try.prog 75 = some [(0, 1), (1, 1)] := by kernel_rfl
theorem tyk_78 : tyk Try.prog 78 = some (false, 1) := by kernel_rfl
theorem zk_78 : zeroK Try.prog 78 = some (1, .int .i64 0) := by kernel_rfl
theorem und_78 : Try.prog.underlying 78 = some (.int .i64) := by kernel_rfl
theorem tyk_85 : tyk Try.prog 85 = some (false, 1) := by kernel_rfl
theorem zk_85 : zeroK Try.prog 85 = some (1, .int .u32 0) := by kernel_rfl
theorem und_85 : Try.prog.underlying 85 = some (.int .u32) := by kernel_rfl
theorem tyk_87 : tyk Try.prog 87 = some (false, 1) := by kernel_rfl
theorem zk_87 : zeroK Try.prog 87 = some (1, .int .u64 0) := by kernel_rfl
theorem und_87 : Try.prog.underlying 87 = some (.int .u64) := by kernel_rfl
theorem tyk_91 : tyk Try.prog 91 = some (false, 1) := by kernel_rfl
theorem tyk_93 : tyk Try.prog 93 = some (false, 1) := by kernel_rfl
theorem tyk_104 : tyk Try.prog 104 = some (false, 1) := by kernel_rfl
theorem cok_3 : callOK Try.prog 3 = true := by kernel_rfl
theorem cok_4 : callOK Try.prog 4 = true := by kernel_rfl
theorem cok_5 : callOK Try.prog 5 = true := by kernel_rfl
theorem cok_6 : callOK Try.prog 6 = true := by kernel_rfl
theorem cok_7 : callOK Try.prog 7 = true := by kernel_rfl
theorem cok_8 : callOK Try.prog 8 = true := by kernel_rfl
theorem cok_9 : callOK Try.prog 9 = true := by kernel_rfl
theorem cok_10 : callOK Try.prog 10 = true := by kernel_rfl
theorem cok_11 : callOK Try.prog 11 = true := by kernel_rfl
theorem cok_12 : callOK Try.prog 12 = true := by kernel_rfl
theorem cok_13 : callOK Try.prog 13 = true := by kernel_rfl
theorem cok_14 : callOK Try.prog 14 = true := by kernel_rfl
theorem cok_15 : callOK Try.prog 15 = true := by kernel_rfl
theorem cok_16 : callOK Try.prog 16 = true := by kernel_rfl
theorem cok_17 : callOK Try.prog 17 = true := by kernel_rfl
theorem cok_18 : callOK Try.prog 18 = true := by kernel_rfl
theorem cok_19 : callOK Try.prog 19 = true := by kernel_rfl
theorem cok_20 : callOK Try.prog 20 = true := by kernel_rfl
theorem cok_21 : callOK Try.prog 21 = true := by kernel_rfl
theorem cok_22 : callOK Try.prog 22 = true := by kernel_rfl
theorem cok_23 : callOK Try.prog 23 = true := by kernel_rfl
theorem cok_24 : callOK Try.prog 24 = true := by kernel_rfl
theorem cok_25 : callOK Try.prog 25 = true := by kernel_rfl
theorem cok_26 : callOK Try.prog 26 = true := by kernel_rfl
theorem cok_27 : callOK Try.prog 27 = true := by kernel_rfl
theorem cok_28 : callOK Try.prog 28 = true := by kernel_rfl
theorem cok_29 : callOK Try.prog 29 = true := by kernel_rfl
theorem cok_30 : callOK Try.prog 30 = true := by kernel_rfl
theorem cok_31 : callOK Try.prog 31 = true := by kernel_rfl
theorem cok_32 : callOK Try.prog 32 = true := by kernel_rfl
theorem cok_33 : callOK Try.prog 33 = true := by kernel_rfl
theorem cok_34 : callOK Try.prog 34 = true := by kernel_rfl
theorem cok_35 : callOK Try.prog 35 = true := by kernel_rfl
theorem cok_36 : callOK Try.prog 36 = true := by kernel_rfl
theorem cok_37 : callOK Try.prog 37 = true := by kernel_rfl
theorem cok_38 : callOK Try.prog 38 = true := by kernel_rfl
theorem cok_39 : callOK Try.prog 39 = true := by kernel_rfl
theorem cok_40 : callOK Try.prog 40 = true := by kernel_rfl
theorem cok_41 : callOK Try.prog 41 = true := by kernel_rfl
theorem cok_42 : callOK Try.prog 42 = true := by kernel_rfl
theorem cok_43 : callOK Try.prog 43 = true := by kernel_rfl
theorem cok_44 : callOK Try.prog 44 = true := by kernel_rfl
theorem cok_45 : callOK Try.prog 45 = true := by kernel_rfl
theorem cok_46 : callOK Try.prog 46 = true := by kernel_rfl
theorem cok_47 : callOK Try.prog 47 = true := by kernel_rfl
theorem cok_48 : callOK Try.prog 48 = true := by kernel_rfl
theorem cok_49 : callOK Try.prog 49 = true := by kernel_rfl
theorem cok_50 : callOK Try.prog 50 = true := by kernel_rfl
theorem cok_51 : callOK Try.prog 51 = true := by kernel_rfl
theorem cok_52 : callOK Try.prog 52 = true := by kernel_rfl
theorem cok_53 : callOK Try.prog 53 = true := by kernel_rfl
theorem cok_54 : callOK Try.prog 54 = true := by kernel_rfl
theorem cok_55 : callOK Try.prog 55 = true := by kernel_rfl
theorem cok_56 : callOK Try.prog 56 = true := by kernel_rfl
theorem cok_57 : callOK Try.prog 57 = true := by kernel_rfl
theorem cok_58 : callOK Try.prog 58 = true := by kernel_rfl
theorem cok_59 : callOK Try.prog 59 = true := by kernel_rfl
theorem cok_60 : callOK Try.prog 60 = true := by kernel_rfl
theorem cok_61 : callOK Try.prog 61 = true := by kernel_rfl
theorem cok_62 : callOK Try.prog 62 = true := by kernel_rfl
theorem cok_63 : callOK Try.prog 63 = true := by kernel_rfl
theorem cok_64 : callOK Try.prog 64 = true := by kernel_rfl
theorem cok_65 : callOK Try.prog 65 = true := by kernel_rfl
theorem cok_66 : callOK Try.prog 66 = true := by kernel_rfl
theorem cok_67 : callOK Try.prog 67 = true := by kernel_rfl
theorem cok_68 : callOK Try.prog 68 = true := by kernel_rfl
theorem cok_69 : callOK Try.prog 69 = true := by kernel_rfl
theorem cok_70 : callOK Try.prog 70 = true := by kernel_rfl
theorem cok_71 : callOK Try.prog 71 = true := by kernel_rfl
theorem cok_72 : callOK Try.prog 72 = true := by kernel_rfl
theorem cok_73 : callOK Try.prog 73 = true := by kernel_rfl
theorem cok_74 : callOK Try.prog 74 = true := by kernel_rfl
theorem cok_75 : callOK Try.prog 75 = true := by kernel_rfl
theorem cok_76 : callOK Try.prog 76 = true := by kernel_rfl
theorem cok_77 : callOK Try.prog 77 = true := by kernel_rfl
theorem cok_78 : callOK Try.prog 78 = true := by kernel_rfl
theorem cok_79 : callOK Try.prog 79 = true := by kernel_rfl
theorem cok_80 : callOK Try.prog 80 = true := by kernel_rfl
end Go.Proofs.Yteocnbeefedbkaa
