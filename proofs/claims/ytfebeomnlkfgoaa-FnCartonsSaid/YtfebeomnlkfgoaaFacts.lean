/-
  Closed facts on the types and functions of the translation, each by the kernel. No condition.
-/
import Derived.Test.YtfebeomnlkfgoaaProg
import Derived.Test.YtfebeomnlkfgoaaWf
import Derived.KernelRfl
namespace Go.Proofs.Ytfebeomnlkfgoaa
open Go.VS
theorem mixed_orders : Try.prog.follows .mixedOrders = true := by kernel_rfl
theorem tyk_3 : tyk Try.prog 3 = some (false, 1) := by kernel_rfl
theorem zk_3 : zeroK Try.prog 3 = some (1, .int .i64 0) := by kernel_rfl
theorem und_3 : Try.prog.underlying 3 = some (.int .i64) := by kernel_rfl
theorem und_4 : Try.prog.underlying 4 = some .bool := by kernel_rfl
theorem tyk_5 : tyk Try.prog 5 = some (false, 1) := by kernel_rfl
theorem und_5 : Try.prog.underlying 5 = some (.int .u8) := by kernel_rfl
theorem tyk_36 : tyk Try.prog 36 = some (false, 1) := by kernel_rfl
theorem esz_36 : elemSz Try.prog 36 = some (3, 1) := by kernel_rfl
theorem eby_36 : elemBy Try.prog 36 = true := by kernel_rfl
theorem isl_36 : isSl Try.prog 36 = true := by kernel_rfl
theorem usl_36 : Try.prog.underlying 36 = some (.slice 3) := by kernel_rfl
theorem esz_39 : elemSz Try.prog 39 = some (67, 5) := by kernel_rfl
theorem eby_39 : elemBy Try.prog 39 = true := by kernel_rfl
theorem isl_39 : isSl Try.prog 39 = true := by kernel_rfl
theorem usl_39 : Try.prog.underlying 39 = some (.slice 67) := by kernel_rfl
theorem tyk_55 : tyk Try.prog 55 = some (false, 1) := by kernel_rfl
theorem esz_55 : elemSz Try.prog 55 = some (5, 1) := by kernel_rfl
theorem isl_55 : isSl Try.prog 55 = true := by kernel_rfl
theorem tyk_67 : tyk Try.prog 67 = some (true, 5) := by kernel_rfl
theorem zk_67 : zeroK Try.prog 67 = some (5, .agg [.int .i64 0, .int .i64 0, .int .i64 0, .nils, .int .i64 0]) := by kernel_rfl
theorem fo_67_0 : fieldOff Try.prog 67 0 = some 0 := by kernel_rfl
theorem fo_67_1 : fieldOff Try.prog 67 1 = some 1 := by kernel_rfl
theorem fo_67_2 : fieldOff Try.prog 67 2 = some 2 := by kernel_rfl
theorem fo_67_3 : fieldOff Try.prog 67 3 = some 3 := by kernel_rfl
theorem fo_67_4 : fieldOff Try.prog 67 4 = some 4 := by kernel_rfl
theorem pl_67 : placesK Try.prog 67 = some [(0, 1), (1, 1), (2, 1), (3, 1), (4, 1)] := by kernel_rfl
theorem tyk_97 : tyk Try.prog 97 = some (false, 1) := by kernel_rfl
theorem und_97 : Try.prog.underlying 97 = some (.int .u64) := by kernel_rfl
theorem zk_99 : zeroK Try.prog 99 = some (3, .agg [.nils, .int .i64 0, .int .u64 0]) := by kernel_rfl
theorem fo_99_0 : fieldOff Try.prog 99 0 = some 0 := by kernel_rfl
theorem fo_99_1 : fieldOff Try.prog 99 1 = some 1 := by kernel_rfl
theorem fo_99_2 : fieldOff Try.prog 99 2 = some 2 := by kernel_rfl
theorem pl_99 : placesK Try.prog 99 = some [(0, 1), (1, 1), (2, 1)] := by kernel_rfl
theorem cok_31 : callOK Try.prog 31 = true := by kernel_rfl
theorem cok_32 : callOK Try.prog 32 = true := by kernel_rfl
theorem cok_37 : callOK Try.prog 37 = true := by kernel_rfl
theorem cok_38 : callOK Try.prog 38 = true := by kernel_rfl
theorem cok_39 : callOK Try.prog 39 = true := by kernel_rfl
theorem cok_40 : callOK Try.prog 40 = true := by kernel_rfl
theorem cok_41 : callOK Try.prog 41 = true := by kernel_rfl
theorem cok_42 : callOK Try.prog 42 = true := by kernel_rfl
theorem cok_43 : callOK Try.prog 43 = true := by kernel_rfl
theorem cok_44 : callOK Try.prog 44 = true := by kernel_rfl
theorem cok_45 : callOK Try.prog 45 = true := by kernel_rfl
theorem cok_46 : callOK Try.prog 46 = true := by kernel_rfl
theorem cok_47 : callOK Try.prog 47 = true := by kernel_rfl
theorem cok_48 : callOK Try.prog 48 = true := by kernel_rfl
theorem cok_49 : callOK Try.prog 49 = true := by kernel_rfl
theorem cok_50 : callOK Try.prog 50 = true := by kernel_rfl
theorem cok_60 : callOK Try.prog 60 = true := by kernel_rfl
theorem cok_63 : callOK Try.prog 63 = true := by kernel_rfl
theorem cok_64 : callOK Try.prog 64 = true := by kernel_rfl
theorem cok_65 : callOK Try.prog 65 = true := by kernel_rfl
theorem cok_66 : callOK Try.prog 66 = true := by kernel_rfl
theorem cok_67 : callOK Try.prog 67 = true := by kernel_rfl
theorem cok_68 : callOK Try.prog 68 = true := by kernel_rfl
theorem cok_69 : callOK Try.prog 69 = true := by kernel_rfl
theorem cok_70 : callOK Try.prog 70 = true := by kernel_rfl
theorem cok_71 : callOK Try.prog 71 = true := by kernel_rfl
theorem cok_72 : callOK Try.prog 72 = true := by kernel_rfl
theorem cok_73 : callOK Try.prog 73 = true := by kernel_rfl
theorem cok_74 : callOK Try.prog 74 = true := by kernel_rfl
theorem cok_79 : callOK Try.prog 79 = true := by kernel_rfl
theorem cok_80 : callOK Try.prog 80 = true := by kernel_rfl
theorem cok_81 : callOK Try.prog 81 = true := by kernel_rfl
theorem cok_82 : callOK Try.prog 82 = true := by kernel_rfl
theorem cok_83 : callOK Try.prog 83 = true := by kernel_rfl
theorem cok_84 : callOK Try.prog 84 = true := by kernel_rfl
theorem cok_85 : callOK Try.prog 85 = true := by kernel_rfl
theorem cok_86 : callOK Try.prog 86 = true := by kernel_rfl
theorem cok_87 : callOK Try.prog 87 = true := by kernel_rfl
theorem cok_88 : callOK Try.prog 88 = true := by kernel_rfl
theorem cok_89 : callOK Try.prog 89 = true := by kernel_rfl
theorem cok_90 : callOK Try.prog 90 = true := by kernel_rfl
theorem cok_91 : callOK Try.prog 91 = true := by kernel_rfl
theorem cok_92 : callOK Try.prog 92 = true := by kernel_rfl
theorem cok_93 : callOK Try.prog 93 = true := by kernel_rfl
theorem cok_94 : callOK Try.prog 94 = true := by kernel_rfl
theorem cok_95 : callOK Try.prog 95 = true := by kernel_rfl
theorem cok_96 : callOK Try.prog 96 = true := by kernel_rfl
theorem cok_103 : callOK Try.prog 103 = true := by kernel_rfl
theorem cok_104 : callOK Try.prog 104 = true := by kernel_rfl
theorem cok_105 : callOK Try.prog 105 = true := by kernel_rfl
theorem cok_106 : callOK Try.prog 106 = true := by kernel_rfl
theorem cok_107 : callOK Try.prog 107 = true := by kernel_rfl
theorem cok_108 : callOK Try.prog 108 = true := by kernel_rfl
theorem cok_109 : callOK Try.prog 109 = true := by kernel_rfl
theorem cok_110 : callOK Try.prog 110 = true := by kernel_rfl
theorem cok_115 : callOK Try.prog 115 = true := by kernel_rfl
theorem cok_116 : callOK Try.prog 116 = true := by kernel_rfl
theorem cok_117 : callOK Try.prog 117 = true := by kernel_rfl
theorem cok_118 : callOK Try.prog 118 = true := by kernel_rfl
theorem cok_119 : callOK Try.prog 119 = true := by kernel_rfl
theorem cok_120 : callOK Try.prog 120 = true := by kernel_rfl
theorem cok_121 : callOK Try.prog 121 = true := by kernel_rfl
theorem cok_128 : callOK Try.prog 128 = true := by kernel_rfl
end Go.Proofs.Ytfebeomnlkfgoaa
