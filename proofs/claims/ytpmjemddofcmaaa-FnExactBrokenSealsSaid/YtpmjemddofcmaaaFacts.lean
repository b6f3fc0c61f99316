/-
  Closed facts on the types and functions of the translation, each by the kernel. No condition.
-/
import Derived.Test.YtpmjemddofcmaaaProg
import Derived.Test.YtpmjemddofcmaaaWf
import Derived.KernelRfl
namespace Go.Proofs.Ytpmjemddofcmaaa
open Go.VS
theorem mixed_orders : Try.prog.follows .mixedOrders = true := by kernel_rfl
theorem tyk_2 : tyk Try.prog 2 = some (false, 1) := by kernel_rfl
theorem zk_2 : zeroK Try.prog 2 = some (1, .int .i64 0) := by kernel_rfl
theorem und_2 : Try.prog.underlying 2 = some (.int .i64) := by kernel_rfl
theorem tyk_3 : tyk Try.prog 3 = some (false, 1) := by kernel_rfl
theorem zk_3 : zeroK Try.prog 3 = some (1, .int .i64 0) := by kernel_rfl
theorem und_3 : Try.prog.underlying 3 = some (.int .i64) := by kernel_rfl
theorem tyk_4 : tyk Try.prog 4 = some (false, 1) := by kernel_rfl
theorem zk_4 : zeroK Try.prog 4 = some (1, .bool false) := by kernel_rfl
theorem und_4 : Try.prog.underlying 4 = some .bool := by kernel_rfl
theorem tyk_5 : tyk Try.prog 5 = some (false, 1) := by kernel_rfl
theorem zk_5 : zeroK Try.prog 5 = some (1, .int .u8 0) := by kernel_rfl
theorem und_5 : Try.prog.underlying 5 = some (.int .u8) := by kernel_rfl
theorem tyk_9 : tyk Try.prog 9 = some (false, 1) := by kernel_rfl
theorem zk_9 : zeroK Try.prog 9 = some (1, .str []) := by kernel_rfl
theorem istr_9 : isStr Try.prog 9 = true := by kernel_rfl
theorem tyk_12 : tyk Try.prog 12 = some (false, 1) := by kernel_rfl
theorem zk_12 : zeroK Try.prog 12 = some (1, .int .u64 0) := by kernel_rfl
theorem und_12 : Try.prog.underlying 12 = some (.int .u64) := by kernel_rfl
theorem tyk_13 : tyk Try.prog 13 = some (true, 2) := by kernel_rfl
theorem zk_13 : zeroK Try.prog 13 = some (2, .agg [.str [], .int .u64 0]) := by kernel_rfl
theorem fo_13_0 : fieldOff Try.prog 13 0 = some 0 := by kernel_rfl
theorem fo_13_1 : fieldOff Try.prog 13 1 = some 1 := by kernel_rfl
theorem tyk_21 : tyk Try.prog 21 = some (false, 1) := by kernel_rfl
theorem zk_21 : zeroK Try.prog 21 = some (1, .int .i32 0) := by kernel_rfl
theorem und_21 : Try.prog.underlying 21 = some (.int .i32) := by kernel_rfl
theorem tyk_22 : tyk Try.prog 22 = some (false, 1) := by kernel_rfl
theorem zk_22 : zeroK Try.prog 22 = some (1, .nils) := by kernel_rfl
theorem esz_22 : elemSz Try.prog 22 = some (40, 6) := by kernel_rfl
theorem eby_22 : elemBy Try.prog 22 = true := by kernel_rfl
theorem isl_22 : isSl Try.prog 22 = true := by kernel_rfl
theorem usl_22 : Try.prog.underlying 22 = some (.slice 40) := by kernel_rfl
theorem tyk_24 : tyk Try.prog 24 = some (false, 1) := by kernel_rfl
theorem zk_24 : zeroK Try.prog 24 = some (1, .nils) := by kernel_rfl
theorem esz_24 : elemSz Try.prog 24 = some (38, 1) := by kernel_rfl
theorem eby_24 : elemBy Try.prog 24 = true := by kernel_rfl
theorem isl_24 : isSl Try.prog 24 = true := by kernel_rfl
theorem usl_24 : Try.prog.underlying 24 = some (.slice 38) := by kernel_rfl
theorem tyk_27 : tyk Try.prog 27 = some (false, 1) := by kernel_rfl
theorem zk_27 : zeroK Try.prog 27 = some (1, .nils) := by kernel_rfl
theorem esz_27 : elemSz Try.prog 27 = some (37, 6) := by kernel_rfl
theorem eby_27 : elemBy Try.prog 27 = true := by kernel_rfl
theorem isl_27 : isSl Try.prog 27 = true := by kernel_rfl
theorem usl_27 : Try.prog.underlying 27 = some (.slice 37) := by kernel_rfl
theorem tyk_36 : tyk Try.prog 36 = some (true, 6) := by kernel_rfl
theorem zk_36 : zeroK Try.prog 36 = some (6, .agg [.int .i64 0, .int .i64 0, .int .i64 0, .int .i64 0, .int .i64 0, .bool false]) := by kernel_rfl
theorem fo_36_0 : fieldOff Try.prog 36 0 = some 0 := by kernel_rfl
theorem fo_36_1 : fieldOff Try.prog 36 1 = some 1 := by kernel_rfl
theorem fo_36_2 : fieldOff Try.prog 36 2 = some 2 := by kernel_rfl
theorem fo_36_3 : fieldOff Try.prog 36 3 = some 3 := by kernel_rfl
theorem fo_36_4 : fieldOff Try.prog 36 4 = some 4 := by kernel_rfl
theorem fo_36_5 : fieldOff Try.prog 36 5 = some 5 := by kernel_rfl
theorem tyk_37 : tyk Try.prog 37 = some (true, 6) := by kernel_rfl
theorem zk_37 : zeroK Try.prog 37 = some (6, .agg [.int .i64 0, .int .i64 0, .int .i64 0, .int .i64 0, .int .i64 0, .bool false]) := by kernel_rfl
theorem fo_37_0 : fieldOff Try.prog 37 0 = some 0 := by kernel_rfl
theorem fo_37_1 : fieldOff Try.prog 37 1 = some 1 := by kernel_rfl
theorem fo_37_2 : fieldOff Try.prog 37 2 = some 2 := by kernel_rfl
theorem fo_37_3 : fieldOff Try.prog 37 3 = some 3 := by kernel_rfl
theorem fo_37_4 : fieldOff Try.prog 37 4 = some 4 := by kernel_rfl
theorem fo_37_5 : fieldOff Try.prog 37 5 = some 5 := by kernel_rfl
theorem fe_37 : flatStruct Try.prog 37 = some [0, 0, 0, 0, 0, 1] := by kernel_rfl
theorem pl_37 : placesK Try.prog 37 = some [(0, 1), (1, 1), (2, 1), (3, 1), (4, 1), (5, 1)] := by kernel_rfl
theorem tyk_38 : tyk Try.prog 38 = some (false, 1) := by kernel_rfl
theorem zk_38 : zeroK Try.prog 38 = some (1, .nils) := by kernel_rfl
theorem esz_38 : elemSz Try.prog 38 = some (3, 1) := by kernel_rfl
theorem eby_38 : elemBy Try.prog 38 = true := by kernel_rfl
theorem isl_38 : isSl Try.prog 38 = true := by kernel_rfl
theorem usl_38 : Try.prog.underlying 38 = some (.slice 3) := by kernel_rfl
theorem tyk_40 : tyk Try.prog 40 = some (true, 6) := by kernel_rfl
theorem zk_40 : zeroK Try.prog 40 = some (6, .agg [.int .i64 0, .int .i64 0, .int .i64 0, .int .i64 0, .int .i64 0, .bool false]) := by kernel_rfl
theorem fo_40_0 : fieldOff Try.prog 40 0 = some 0 := by kernel_rfl
theorem fo_40_1 : fieldOff Try.prog 40 1 = some 1 := by kernel_rfl
theorem fo_40_2 : fieldOff Try.prog 40 2 = some 2 := by kernel_rfl
theorem fo_40_3 : fieldOff Try.prog 40 3 = some 3 := by kernel_rfl
theorem fo_40_4 : fieldOff Try.prog 40 4 = some 4 := by kernel_rfl
theorem fo_40_5 : fieldOff Try.prog 40 5 = some 5 := by kernel_rfl
theorem fe_40 : flatStruct Try.prog 40 = some [0, 0, 0, 0, 0, 1] := by kernel_rfl
theorem pl_40 : placesK Try.prog 40 = some [(0, 1), (1, 1), (2, 1), (3, 1), (4, 1), (5, 1)] := by kernel_rfl
theorem tyk_58 : tyk Try.prog 58 = some (false, 1) := by kernel_rfl
theorem zk_58 : zeroK Try.prog 58 = some (1, .int .u32 0) := by kernel_rfl
theorem und_58 : Try.prog.underlying 58 = some (.int .u32) := by kernel_rfl
theorem tyk_62 : tyk Try.prog 62 = some (false, 1) := by kernel_rfl
theorem cok_3 : callOK Try.prog 3 = true := by kernel_rfl
theorem cok_4 : callOK Try.prog 4 = true := by kernel_rfl
theorem cok_5 : callOK Try.prog 5 = true := by kernel_rfl
theorem cok_6 : callOK Try.prog 6 = true := by kernel_rfl
theorem cok_7 : callOK Try.prog 7 = true := by kernel_rfl
theorem cok_8 : callOK Try.prog 8 = true := by kernel_rfl
theorem cok_9 : callOK Try.prog 9 = true := by kernel_rfl
theorem cok_10 : callOK Try.prog 10 = true := by kernel_rfl
theorem cok_11 : callOK Try.prog 11 = true := by kernel_rfl
theorem cok_12 : callOK Try.prog 12 = true := by kernel_rfl
theorem cok_13 : callOK Try.prog 13 = true := by kernel_rfl
theorem cok_14 : callOK Try.prog 14 = true := by kernel_rfl
theorem cok_15 : callOK Try.prog 15 = true := by kernel_rfl
theorem cok_16 : callOK Try.prog 16 = true := by kernel_rfl
theorem cok_17 : callOK Try.prog 17 = true := by kernel_rfl
theorem cok_18 : callOK Try.prog 18 = true := by kernel_rfl
theorem cok_19 : callOK Try.prog 19 = true := by kernel_rfl
theorem cok_20 : callOK Try.prog 20 = true := by kernel_rfl
theorem cok_21 : callOK Try.prog 21 = true := by kernel_rfl
theorem cok_22 : callOK Try.prog 22 = true := by kernel_rfl
theorem cok_23 : callOK Try.prog 23 = true := by kernel_rfl
theorem cok_24 : callOK Try.prog 24 = true := by kernel_rfl
theorem cok_25 : callOK Try.prog 25 = true := by kernel_rfl
theorem cok_26 : callOK Try.prog 26 = true := by kernel_rfl
theorem cok_27 : callOK Try.prog 27 = true := by kernel_rfl
theorem cok_28 : callOK Try.prog 28 = true := by kernel_rfl
theorem cok_29 : callOK Try.prog 29 = true := by kernel_rfl
theorem cok_30 : callOK Try.prog 30 = true := by kernel_rfl
theorem cok_31 : callOK Try.prog 31 = true := by kernel_rfl
theorem cok_32 : callOK Try.prog 32 = true := by kernel_rfl
theorem cok_33 : callOK Try.prog 33 = true := by kernel_rfl
theorem cok_34 : callOK Try.prog 34 = true := by kernel_rfl
theorem cok_35 : callOK Try.prog 35 = true := by kernel_rfl
theorem cok_36 : callOK Try.prog 36 = true := by kernel_rfl
end Go.Proofs.Ytpmjemddofcmaaa
