/-
  Closed facts on the types and functions of the translation, each by the kernel. No condition.
-/
import Derived.Test.YtjfpdbhjoofllaaProg
import Derived.Test.YtjfpdbhjoofllaaWf
import Derived.KernelRfl
namespace Go.Proofs.Ytjfpdbhjoofllaa
open Go.VS
theorem mixed_orders : Try.prog.follows .mixedOrders = true := by kernel_rfl
theorem tyk_3 : tyk Try.prog 3 = some (false, 1) := by kernel_rfl
theorem zk_3 : zeroK Try.prog 3 = some (1, .int .i64 0) := by kernel_rfl
theorem und_3 : Try.prog.underlying 3 = some (.int .i64) := by kernel_rfl
theorem und_4 : Try.prog.underlying 4 = some .bool := by kernel_rfl
theorem tyk_5 : tyk Try.prog 5 = some (false, 1) := by kernel_rfl
theorem und_5 : Try.prog.underlying 5 = some (.int .u8) := by kernel_rfl
theorem tyk_22 : tyk Try.prog 22 = some (false, 1) := by kernel_rfl
theorem esz_22 : elemSz Try.prog 22 = some (5, 1) := by kernel_rfl
theorem isl_22 : isSl Try.prog 22 = true := by kernel_rfl
theorem tyk_42 : tyk Try.prog 42 = some (false, 1) := by kernel_rfl
theorem esz_42 : elemSz Try.prog 42 = some (46, 2) := by kernel_rfl
theorem eby_42 : elemBy Try.prog 42 = true := by kernel_rfl
theorem isl_42 : isSl Try.prog 42 = true := by kernel_rfl
theorem tyk_44 : tyk Try.prog 44 = some (true, 4) := by kernel_rfl
theorem zk_44 : zeroK Try.prog 44 = some (4, .agg [.int .i64 0, .int .i64 0, .int .i64 0, .nils]) := by kernel_rfl
theorem fo_44_0 : fieldOff Try.prog 44 0 = some 0 := by kernel_rfl
theorem fo_44_1 : fieldOff Try.prog 44 1 = some 1 := by kernel_rfl
theorem fo_44_2 : fieldOff Try.prog 44 2 = some 2 := by kernel_rfl
theorem fo_44_3 : fieldOff Try.prog 44 3 = some 3 := by kernel_rfl
theorem pl_44 : placesK Try.prog 44 = some [(0, 1), (1, 1), (2, 1), (3, 1)] := by kernel_rfl
theorem tyk_46 : tyk Try.prog 46 = some (true, 2) := by kernel_rfl
theorem zk_46 : zeroK Try.prog 46 = some (2, .agg [.int .i64 0, .int .i64 0]) := by kernel_rfl
theorem fo_46_0 : fieldOff Try.prog 46 0 = some 0 := by kernel_rfl
theorem fo_46_1 : fieldOff Try.prog 46 1 = some 1 := by kernel_rfl
theorem pl_46 : placesK Try.prog 46 = some [(0, 1), (1, 1)] := by kernel_rfl
theorem esz_57 : elemSz Try.prog 57 = some (60, 2) := by kernel_rfl
theorem eby_57 : elemBy Try.prog 57 = true := by kernel_rfl
theorem isl_57 : isSl Try.prog 57 = true := by kernel_rfl
theorem usl_57 : Try.prog.underlying 57 = some (.slice 60) := by kernel_rfl
theorem tyk_58 : tyk Try.prog 58 = some (false, 1) := by kernel_rfl
theorem zk_58 : zeroK Try.prog 58 = some (1, .nils) := by kernel_rfl
theorem esz_58 : elemSz Try.prog 58 = some (109, 4) := by kernel_rfl
theorem eby_58 : elemBy Try.prog 58 = true := by kernel_rfl
theorem isl_58 : isSl Try.prog 58 = true := by kernel_rfl
theorem usl_58 : Try.prog.underlying 58 = some (.slice 109) := by kernel_rfl
theorem tyk_60 : tyk Try.prog 60 = some (true, 2) := by kernel_rfl
theorem zk_60 : zeroK Try.prog 60 = some (2, .agg [.int .i64 0, .nils]) := by kernel_rfl
theorem fo_60_0 : fieldOff Try.prog 60 0 = some 0 := by kernel_rfl
theorem fo_60_1 : fieldOff Try.prog 60 1 = some 1 := by kernel_rfl
theorem pl_60 : placesK Try.prog 60 = some [(0, 1), (1, 1)] := by kernel_rfl
theorem esz_69 : elemSz Try.prog 69 = some (3, 1) := by kernel_rfl
theorem eby_69 : elemBy Try.prog 69 = true := by kernel_rfl
theorem isl_69 : isSl Try.prog 69 = true := by kernel_rfl
theorem tyk_78 : tyk Try.prog 78 = some (false, 1) := by kernel_rfl
theorem und_78 : Try.prog.underlying 78 = some (.int .u64) := by kernel_rfl
theorem zk_80 : zeroK Try.prog 80 = some (3, .agg [.nils, .int .i64 0, .int .u64 0]) := by kernel_rfl
theorem fo_80_0 : fieldOff Try.prog 80 0 = some 0 := by kernel_rfl
theorem fo_80_1 : fieldOff Try.prog 80 1 = some 1 := by kernel_rfl
theorem fo_80_2 : fieldOff Try.prog 80 2 = some 2 := by kernel_rfl
theorem pl_80 : placesK Try.prog 80 = some [(0, 1), (1, 1), (2, 1)] := by kernel_rfl
theorem tyk_109 : tyk Try.prog 109 = some (true, 4) := by kernel_rfl
theorem zk_109 : zeroK Try.prog 109 = some (4, .agg [.int .i64 0, .int .i64 0, .int .i64 0, .int .i64 0]) := by kernel_rfl
theorem fo_109_0 : fieldOff Try.prog 109 0 = some 0 := by kernel_rfl
theorem fo_109_1 : fieldOff Try.prog 109 1 = some 1 := by kernel_rfl
theorem fo_109_2 : fieldOff Try.prog 109 2 = some 2 := by kernel_rfl
theorem fo_109_3 : fieldOff Try.prog 109 3 = some 3 := by kernel_rfl
theorem fe_109 : flatStruct Try.prog 109 = some [0, 0, 0, 0] := by kernel_rfl
theorem pl_109 : placesK Try.prog 109 = some [(0, 1), (1, 1), (2, 1), (3, 1)] := by kernel_rfl
theorem und_129 : Try.prog.underlying 129 = some (.int .u64) := by kernel_rfl
theorem cok_6 : callOK Try.prog 6 = true := by kernel_rfl
theorem cok_35 : callOK Try.prog 35 = true := by kernel_rfl
theorem cok_36 : callOK Try.prog 36 = true := by kernel_rfl
theorem cok_37 : callOK Try.prog 37 = true := by kernel_rfl
theorem cok_38 : callOK Try.prog 38 = true := by kernel_rfl
theorem cok_39 : callOK Try.prog 39 = true := by kernel_rfl
theorem cok_40 : callOK Try.prog 40 = true := by kernel_rfl
theorem cok_41 : callOK Try.prog 41 = true := by kernel_rfl
theorem cok_42 : callOK Try.prog 42 = true := by kernel_rfl
theorem cok_43 : callOK Try.prog 43 = true := by kernel_rfl
theorem cok_44 : callOK Try.prog 44 = true := by kernel_rfl
theorem cok_45 : callOK Try.prog 45 = true := by kernel_rfl
theorem cok_46 : callOK Try.prog 46 = true := by kernel_rfl
theorem cok_47 : callOK Try.prog 47 = true := by kernel_rfl
theorem cok_48 : callOK Try.prog 48 = true := by kernel_rfl
theorem cok_50 : callOK Try.prog 50 = true := by kernel_rfl
theorem cok_55 : callOK Try.prog 55 = true := by kernel_rfl
theorem cok_56 : callOK Try.prog 56 = true := by kernel_rfl
theorem cok_57 : callOK Try.prog 57 = true := by kernel_rfl
theorem cok_60 : callOK Try.prog 60 = true := by kernel_rfl
theorem cok_62 : callOK Try.prog 62 = true := by kernel_rfl
theorem cok_67 : callOK Try.prog 67 = true := by kernel_rfl
theorem cok_72 : callOK Try.prog 72 = true := by kernel_rfl
theorem cok_73 : callOK Try.prog 73 = true := by kernel_rfl
theorem cok_74 : callOK Try.prog 74 = true := by kernel_rfl
theorem cok_80 : callOK Try.prog 80 = true := by kernel_rfl
theorem cok_81 : callOK Try.prog 81 = true := by kernel_rfl
theorem cok_82 : callOK Try.prog 82 = true := by kernel_rfl
theorem cok_83 : callOK Try.prog 83 = true := by kernel_rfl
theorem cok_84 : callOK Try.prog 84 = true := by kernel_rfl
theorem cok_85 : callOK Try.prog 85 = true := by kernel_rfl
theorem cok_86 : callOK Try.prog 86 = true := by kernel_rfl
theorem cok_87 : callOK Try.prog 87 = true := by kernel_rfl
theorem cok_88 : callOK Try.prog 88 = true := by kernel_rfl
theorem cok_89 : callOK Try.prog 89 = true := by kernel_rfl
theorem cok_90 : callOK Try.prog 90 = true := by kernel_rfl
theorem cok_91 : callOK Try.prog 91 = true := by kernel_rfl
theorem cok_92 : callOK Try.prog 92 = true := by kernel_rfl
theorem cok_93 : callOK Try.prog 93 = true := by kernel_rfl
theorem cok_94 : callOK Try.prog 94 = true := by kernel_rfl
theorem cok_95 : callOK Try.prog 95 = true := by kernel_rfl
theorem cok_96 : callOK Try.prog 96 = true := by kernel_rfl
theorem cok_97 : callOK Try.prog 97 = true := by kernel_rfl
theorem cok_98 : callOK Try.prog 98 = true := by kernel_rfl
theorem cok_99 : callOK Try.prog 99 = true := by kernel_rfl
theorem cok_100 : callOK Try.prog 100 = true := by kernel_rfl
theorem cok_101 : callOK Try.prog 101 = true := by kernel_rfl
theorem cok_102 : callOK Try.prog 102 = true := by kernel_rfl
theorem cok_103 : callOK Try.prog 103 = true := by kernel_rfl
theorem cok_104 : callOK Try.prog 104 = true := by kernel_rfl
theorem cok_105 : callOK Try.prog 105 = true := by kernel_rfl
theorem cok_113 : callOK Try.prog 113 = true := by kernel_rfl
theorem cok_114 : callOK Try.prog 114 = true := by kernel_rfl
theorem cok_115 : callOK Try.prog 115 = true := by kernel_rfl
theorem cok_116 : callOK Try.prog 116 = true := by kernel_rfl
theorem cok_117 : callOK Try.prog 117 = true := by kernel_rfl
theorem cok_118 : callOK Try.prog 118 = true := by kernel_rfl
theorem cok_121 : callOK Try.prog 121 = true := by kernel_rfl
theorem cok_122 : callOK Try.prog 122 = true := by kernel_rfl
theorem cok_123 : callOK Try.prog 123 = true := by kernel_rfl
theorem cok_126 : callOK Try.prog 126 = true := by kernel_rfl
theorem cok_127 : callOK Try.prog 127 = true := by kernel_rfl
theorem cok_130 : callOK Try.prog 130 = true := by kernel_rfl
theorem cok_131 : callOK Try.prog 131 = true := by kernel_rfl
theorem cok_132 : callOK Try.prog 132 = true := by kernel_rfl
theorem cok_133 : callOK Try.prog 133 = true := by kernel_rfl
theorem cok_135 : callOK Try.prog 135 = true := by kernel_rfl
theorem cok_136 : callOK Try.prog 136 = true := by kernel_rfl
theorem cok_137 : callOK Try.prog 137 = true := by kernel_rfl
theorem cok_149 : callOK Try.prog 149 = true := by kernel_rfl
theorem cok_150 : callOK Try.prog 150 = true := by kernel_rfl
theorem cok_151 : callOK Try.prog 151 = true := by kernel_rfl
theorem cok_159 : callOK Try.prog 159 = true := by kernel_rfl
end Go.Proofs.Ytjfpdbhjoofllaa
