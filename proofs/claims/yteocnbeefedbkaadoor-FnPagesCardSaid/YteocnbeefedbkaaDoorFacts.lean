/-
  Closed facts on the types and functions of the translation, each by the kernel. No condition.
-/
import Derived.Test.YteocnbeefedbkaaDoorProg
import Derived.Test.YteocnbeefedbkaaDoorWf
import Derived.KernelRfl
namespace Go.Proofs.YteocnbeefedbkaaDoor
open Go.VS
theorem mixed_orders : Tryd.prog.follows .mixedOrders = true := by kernel_rfl
theorem tyk_2 : tyk Tryd.prog 2 = some (false, 1) := by kernel_rfl
theorem zk_2 : zeroK Tryd.prog 2 = some (1, .int .i64 0) := by kernel_rfl
theorem und_2 : Tryd.prog.underlying 2 = some (.int .i64) := by kernel_rfl
theorem tyk_3 : tyk Tryd.prog 3 = some (false, 1) := by kernel_rfl
theorem zk_3 : zeroK Tryd.prog 3 = some (1, .int .i64 0) := by kernel_rfl
theorem und_3 : Tryd.prog.underlying 3 = some (.int .i64) := by kernel_rfl
theorem tyk_4 : tyk Tryd.prog 4 = some (false, 1) := by kernel_rfl
theorem zk_4 : zeroK Tryd.prog 4 = some (1, .bool false) := by kernel_rfl
theorem und_4 : Tryd.prog.underlying 4 = some .bool := by kernel_rfl
theorem tyk_5 : tyk Tryd.prog 5 = some (false, 1) := by kernel_rfl
theorem zk_5 : zeroK Tryd.prog 5 = some (1, .int .u8 0) := by kernel_rfl
theorem und_5 : Tryd.prog.underlying 5 = some (.int .u8) := by kernel_rfl
theorem tyk_9 : tyk Tryd.prog 9 = some (false, 1) := by kernel_rfl
theorem zk_9 : zeroK Tryd.prog 9 = some (1, .str []) := by kernel_rfl
theorem istr_9 : isStr Tryd.prog 9 = true := by kernel_rfl
theorem tyk_12 : tyk Tryd.prog 12 = some (false, 1) := by kernel_rfl
theorem zk_12 : zeroK Tryd.prog 12 = some (1, .int .u64 0) := by kernel_rfl
theorem und_12 : Tryd.prog.underlying 12 = some (.int .u64) := by kernel_rfl
theorem tyk_13 : tyk Tryd.prog 13 = some (true, 2) := by kernel_rfl
theorem zk_13 : zeroK Tryd.prog 13 = some (2, .agg [.str [], .int .u64 0]) := by kernel_rfl
theorem fo_13_0 : fieldOff Tryd.prog 13 0 = some 0 := by kernel_rfl
theorem fo_13_1 : fieldOff Tryd.prog 13 1 = some 1 := by kernel_rfl
theorem tyk_21 : tyk Tryd.prog 21 = some (false, 1) := by kernel_rfl
theorem zk_21 : zeroK Tryd.prog 21 = some (1, .int .i32 0) := by kernel_rfl
theorem und_21 : Tryd.prog.underlying 21 = some (.int .i32) := by kernel_rfl
theorem tyk_22 : tyk Tryd.prog 22 = some (false, 1) := by kernel_rfl
theorem zk_22 : zeroK Tryd.prog 22 = some (1, .nils) := by kernel_rfl
theorem esz_22 : elemSz Tryd.prog 22 = some (5, 1) := by kernel_rfl
theorem eby_22 : elemBy Tryd.prog 22 = true := by kernel_rfl
theorem isl_22 : isSl Tryd.prog 22 = true := by kernel_rfl
theorem usl_22 : Tryd.prog.underlying 22 = some (.slice 5) := by kernel_rfl
theorem tyk_24 : tyk Tryd.prog 24 = some (false, 1) := by kernel_rfl
theorem zk_24 : zeroK Tryd.prog 24 = some (1, .nils) := by kernel_rfl
theorem esz_24 : elemSz Tryd.prog 24 = some (34, 4) := by kernel_rfl
theorem eby_24 : elemBy Tryd.prog 24 = true := by kernel_rfl
theorem isl_24 : isSl Tryd.prog 24 = true := by kernel_rfl
theorem usl_24 : Tryd.prog.underlying 24 = some (.slice 34) := by kernel_rfl
theorem tyk_27 : tyk Tryd.prog 27 = some (false, 1) := by kernel_rfl
theorem zk_27 : zeroK Tryd.prog 27 = some (1, .nils) := by kernel_rfl
theorem esz_27 : elemSz Tryd.prog 27 = some (3, 1) := by kernel_rfl
theorem eby_27 : elemBy Tryd.prog 27 = true := by kernel_rfl
theorem isl_27 : isSl Tryd.prog 27 = true := by kernel_rfl
theorem usl_27 : Tryd.prog.underlying 27 = some (.slice 3) := by kernel_rfl
theorem tyk_33 : tyk Tryd.prog 33 = some (true, 4) := by kernel_rfl
theorem zk_33 : zeroK Tryd.prog 33 = some (4, .agg [.int .i64 0, .str [], .int .i64 0, .nils]) := by kernel_rfl
theorem fo_33_0 : fieldOff Tryd.prog 33 0 = some 0 := by kernel_rfl
theorem fo_33_1 : fieldOff Tryd.prog 33 1 = some 1 := by kernel_rfl
theorem fo_33_2 : fieldOff Tryd.prog 33 2 = some 2 := by kernel_rfl
theorem fo_33_3 : fieldOff Tryd.prog 33 3 = some 3 := by kernel_rfl
theorem tyk_34 : tyk Tryd.prog 34 = some (true, 4) := by kernel_rfl
theorem zk_34 : zeroK Tryd.prog 34 = some (4, .agg [.int .i64 0, .str [], .int .i64 0, .nils]) := by kernel_rfl
theorem fo_34_0 : fieldOff Tryd.prog 34 0 = some 0 := by kernel_rfl
theorem fo_34_1 : fieldOff Tryd.prog 34 1 = some 1 := by kernel_rfl
theorem fo_34_2 : fieldOff Tryd.prog 34 2 = some 2 := by kernel_rfl
theorem fo_34_3 : fieldOff Tryd.prog 34 3 = some 3 := by kernel_rfl
theorem pl_34 : placesK Tryd.prog 34 = some [(0, 1), (1, 1), (2, 1), (3, 1)] := by kernel_rfl
theorem tyk_41 : tyk Tryd.prog 41 = some (false, 1) := by kernel_rfl
theorem zk_41 : zeroK Tryd.prog 41 = some (1, .nils) := by kernel_rfl
theorem esz_41 : elemSz Tryd.prog 41 = some (97, 7) := by kernel_rfl
theorem eby_41 : elemBy Tryd.prog 41 = true := by kernel_rfl
theorem isl_41 : isSl Tryd.prog 41 = true := by kernel_rfl
theorem usl_41 : Tryd.prog.underlying 41 = some (.slice 97) := by kernel_rfl
theorem tyk_47 : tyk Tryd.prog 47 = some (false, 1) := by kernel_rfl
theorem zk_47 : zeroK Tryd.prog 47 = some (1, .nils) := by kernel_rfl
theorem esz_47 : elemSz Tryd.prog 47 = some (27, 1) := by kernel_rfl
theorem eby_47 : elemBy Tryd.prog 47 = true := by kernel_rfl
theorem isl_47 : isSl Tryd.prog 47 = true := by kernel_rfl
theorem usl_47 : Tryd.prog.underlying 47 = some (.slice 27) := by kernel_rfl
theorem tyk_58 : tyk Tryd.prog 58 = some (false, 1) := by kernel_rfl
theorem zk_58 : zeroK Tryd.prog 58 = some (1, .nils) := by kernel_rfl
theorem esz_58 : elemSz Tryd.prog 58 = some (66, 3) := by kernel_rfl
theorem eby_58 : elemBy Tryd.prog 58 = true := by kernel_rfl
theorem isl_58 : isSl Tryd.prog 58 = true := by kernel_rfl
theorem usl_58 : Tryd.prog.underlying 58 = some (.slice 66) := by kernel_rfl
theorem tyk_65 : tyk Tryd.prog 65 = some (true, 3) := by kernel_rfl
theorem zk_65 : zeroK Tryd.prog 65 = some (3, .agg [.int .i64 0, .int .i64 0, .int .i64 0]) := by kernel_rfl
theorem fo_65_0 : fieldOff Tryd.prog 65 0 = some 0 := by kernel_rfl
theorem fo_65_1 : fieldOff Tryd.prog 65 1 = some 1 := by kernel_rfl
theorem fo_65_2 : fieldOff Tryd.prog 65 2 = some 2 := by kernel_rfl
theorem tyk_66 : tyk Tryd.prog 66 = some (true, 3) := by kernel_rfl
theorem zk_66 : zeroK Tryd.prog 66 = some (3, .agg [.int .i64 0, .int .i64 0, .int .i64 0]) := by kernel_rfl
theorem fo_66_0 : fieldOff Tryd.prog 66 0 = some 0 := by kernel_rfl
theorem fo_66_1 : fieldOff Tryd.prog 66 1 = some 1 := by kernel_rfl
theorem fo_66_2 : fieldOff Tryd.prog 66 2 = some 2 := by kernel_rfl
theorem fe_66 : flatStruct Tryd.prog 66 = some [0, 0, 0] := by kernel_rfl
theorem pl_66 : placesK Tryd.prog 66 = some [(0, 1), (1, 1), (2, 1)] := by kernel_rfl
theorem tyk_74 : tyk Tryd.prog 74 = some (false, 1) := by kernel_rfl
theorem tyk_75 : tyk Tryd.prog 75 = some (false, 1) := by kernel_rfl
theorem zk_75 : zeroK Tryd.prog 75 = some (1, .int .u64 0) := by kernel_rfl
theorem und_75 : Tryd.prog.underlying 75 = some (.int .u64) := by kernel_rfl
theorem tyk_76 : tyk Tryd.prog 76 = some (true, 3) := by kernel_rfl
theorem zk_76 : zeroK Tryd.prog 76 = some (3, .agg [.nils, .int .i64 0, .int .u64 0]) := by kernel_rfl
theorem fo_76_0 : fieldOff Tryd.prog 76 0 = some 0 := by kernel_rfl
theorem fo_76_1 : fieldOff Tryd.prog 76 1 = some 1 := by kernel_rfl
theorem fo_76_2 : fieldOff Tryd.prog 76 2 = some 2 := by kernel_rfl
theorem tyk_77 : tyk Tryd.prog 77 = some (true, 3) := by kernel_rfl
theorem zk_77 : zeroK Tryd.prog 77 = some (3, .agg [.nils, .int .i64 0, .int .u64 0]) := by kernel_rfl
theorem fo_77_0 : fieldOff Tryd.prog 77 0 = some 0 := by kernel_rfl
theorem fo_77_1 : fieldOff Tryd.prog 77 1 = some 1 := by kernel_rfl
theorem fo_77_2 : fieldOff Tryd.prog 77 2 = some 2 := by kernel_rfl
theorem pl_77 : placesK Tryd.prog 77 = some [(0, 1), (1, 1), (2, 1)] := by kernel_rfl
theorem tyk_93 : tyk Tryd.prog 93 = some (false, 1) := by kernel_rfl
theorem zk_93 : zeroK Tryd.prog 93 = some (1, .nils) := by kernel_rfl
theorem esz_93 : elemSz Tryd.prog 93 = some (9, 1) := by kernel_rfl
theorem eby_93 : elemBy Tryd.prog 93 = true := by kernel_rfl
theorem isl_93 : isSl Tryd.prog 93 = true := by kernel_rfl
theorem usl_93 : Tryd.prog.underlying 93 = some (.slice 9) := by kernel_rfl
theorem tyk_96 : tyk Tryd.prog 96 = some (true, 7) := by kernel_rfl
theorem zk_96 : zeroK Tryd.prog 96 = some (7, .agg [.int .i64 0, .int .i64 0, .str [], .int .i64 0, .int .i64 0, .int .i64 0, .int .i64 0]) := by kernel_rfl
theorem fo_96_0 : fieldOff Tryd.prog 96 0 = some 0 := by kernel_rfl
theorem fo_96_1 : fieldOff Tryd.prog 96 1 = some 1 := by kernel_rfl
theorem fo_96_2 : fieldOff Tryd.prog 96 2 = some 2 := by kernel_rfl
theorem fo_96_3 : fieldOff Tryd.prog 96 3 = some 3 := by kernel_rfl
theorem fo_96_4 : fieldOff Tryd.prog 96 4 = some 4 := by kernel_rfl
theorem fo_96_5 : fieldOff Tryd.prog 96 5 = some 5 := by kernel_rfl
theorem fo_96_6 : fieldOff Tryd.prog 96 6 = some 6 := by kernel_rfl
theorem tyk_97 : tyk Tryd.prog 97 = some (true, 7) := by kernel_rfl
theorem zk_97 : zeroK Tryd.prog 97 = some (7, .agg [.int .i64 0, .int .i64 0, .str [], .int .i64 0, .int .i64 0, .int .i64 0, .int .i64 0]) := by kernel_rfl
theorem fo_97_0 : fieldOff Tryd.prog 97 0 = some 0 := by kernel_rfl
theorem fo_97_1 : fieldOff Tryd.prog 97 1 = some 1 := by kernel_rfl
theorem fo_97_2 : fieldOff Tryd.prog 97 2 = some 2 := by kernel_rfl
theorem fo_97_3 : fieldOff Tryd.prog 97 3 = some 3 := by kernel_rfl
theorem fo_97_4 : fieldOff Tryd.prog 97 4 = some 4 := by kernel_rfl
theorem fo_97_5 : fieldOff Tryd.prog 97 5 = some 5 := by kernel_rfl
theorem fo_97_6 : fieldOff Tryd.prog 97 6 = some 6 := by kernel_rfl
theorem fe_97 : flatStruct Tryd.prog 97 = some [0, 0, 2, 0, 0, 0, 0] := by kernel_rfl
theorem pl_97 : placesK Tryd.prog 97 = some [(0, 1), (1, 1), (2, 1), (3, 1), (4, 1), (5, 1), (6, 1)] := by kernel_rfl
theorem tyk_128 : tyk Tryd.prog 128 = some (false, 1) := by kernel_rfl
theorem zk_128 : zeroK Tryd.prog 128 = some (1, .int .u64 0) := by kernel_rfl
theorem und_128 : Tryd.prog.underlying 128 = some (.int .u64) := by kernel_rfl
theorem tyk_142 : tyk Tryd.prog 142 = some (true, 256) := by kernel_rfl
theorem zk_142 : zeroK Tryd.prog 142 = some (256, .agg [.bool false, .bool false, .bool false, .bool false, .bool false, .bool false, .bool false, .bool false, .bool false, .bool false, .bool false, .bool false, .bool false, .bool false, .bool false, .bool false, .bool false, .bool false, .bool false, .bool false, .bool false, .bool false, .bool false, .bool false, .bool false, .bool false, .bool false, .bool false, .bool false, .bool false, .bool false, .bool false, .bool false, .bool false, .bool false, .bool false, .bool false, .bool false, .bool false, .bool false, .bool false, .bool false, .bool false, .bool false, .bool false, .bool false, .bool false, .bool false, .bool false, .bool false, .bool false, .bool false, .bool false, .bool false, .bool false, .bool false, .bool false, .bool false, .bool false, .bool false, .bool false, .bool false, .bool false, .bool false, .bool false, .bool false, .bool false, .bool false, .bool false, .bool false, .bool false, .bool false, .bool false, .bool false, .bool false, .bool false, .bool false, .bool false, .bool false, .bool false, .bool false, .bool false, .bool false, .bool false, .bool false, .bool false, .bool false, .bool false, .bool false, .bool false, .bool false, .bool false, .bool false, .bool false, .bool false, .bool false, .bool false, .bool false, .bool false, .bool false, .bool false, .bool false, .bool false, .bool false, .bool false, .bool false, .bool false, .bool false, .bool false, .bool false, .bool false, .bool false, .bool false, .bool false, .bool false, .bool false, .bool false, .bool false, .bool false, .bool false, .bool false, .bool false, .bool false, .bool false, .bool false, .bool false, .bool false, .bool false, .bool false, .bool false, .bool false, .bool false, .bool false, .bool false, .bool false, .bool false, .bool false, .bool false, .bool false, .bool false, .bool false, .bool false, .bool false, .bool false, .bool false, .bool false, .bool false, .bool false, .bool false, .bool false, .bool false, .bool false, .bool false, .bool false, .bool false, .bool false, .bool false, .bool false, .bool false, .bool false, .bool false, .bool false, .bool false, .bool false, .bool false, .bool false, .bool false, .bool false, .bool false, .bool false, .bool false, .bool false, .bool false, .bool false, .bool false, .bool false, .bool false, .bool false, .bool false, .bool false, .bool false, .bool false, .bool false, .bool false, .bool false, .bool false, .bool false, .bool false, .bool false, .bool false, .bool false, .bool false, .bool false, .bool false, .bool false, .bool false, .bool false, .bool false, .bool false, .bool false, .bool false, .bool false, .bool false, .bool false, .bool false, .bool false, .bool false, .bool false, .bool false, .bool false, .bool false, .bool false, .bool false, .bool false, .bool false, .bool false, .bool false, .bool false, .bool false, .bool false, .bool false, .bool false, .bool false, .bool false, .bool false, .bool false, .bool false, .bool false, .bool false, .bool false, .bool false, .bool false, .bool false, .bool false, .bool false, .bool false, .bool false, .bool false, .bool false, .bool false, .bool false, .bool false, .bool false, .bool false, .bool false, .bool false, .bool false, .bool false, .bool false, .bool false, .bool false, .bool false, .bool false, .bool false, .bool false, .bool false]) := by kernel_rfl
theorem und_142 : Tryd.prog.underlying 142 = some (.array 256 4) := by kernel_rfl
theorem tyk_143 : tyk Tryd.prog 143 = some (true, 256) := by kernel_rfl
theorem zk_143 : zeroK Tryd.prog 143 = some (256, .agg [.bool false, .bool false, .bool false, .bool false, .bool false, .bool false, .bool false, .bool false, .bool false, .bool false, .bool false, .bool false, .bool false, .bool false, .bool false, .bool false, .bool false, .bool false, .bool false, .bool false, .bool false, .bool false, .bool false, .bool false, .bool false, .bool false, .bool false, .bool false, .bool false, .bool false, .bool false, .bool false, .bool false, .bool false, .bool false, .bool false, .bool false, .bool false, .bool false, .bool false, .bool false, .bool false, .bool false, .bool false, .bool false, .bool false, .bool false, .bool false, .bool false, .bool false, .bool false, .bool false, .bool false, .bool false, .bool false, .bool false, .bool false, .bool false, .bool false, .bool false, .bool false, .bool false, .bool false, .bool false, .bool false, .bool false, .bool false, .bool false, .bool false, .bool false, .bool false, .bool false, .bool false, .bool false, .bool false, .bool false, .bool false, .bool false, .bool false, .bool false, .bool false, .bool false, .bool false, .bool false, .bool false, .bool false, .bool false, .bool false, .bool false, .bool false, .bool false, .bool false, .bool false, .bool false, .bool false, .bool false, .bool false, .bool false, .bool false, .bool false, .bool false, .bool false, .bool false, .bool false, .bool false, .bool false, .bool false, .bool false, .bool false, .bool false, .bool false, .bool false, .bool false, .bool false, .bool false, .bool false, .bool false, .bool false, .bool false, .bool false, .bool false, .bool false, .bool false, .bool false, .bool false, .bool false, .bool false, .bool false, .bool false, .bool false, .bool false, .bool false, .bool false, .bool false, .bool false, .bool false, .bool false, .bool false, .bool false, .bool false, .bool false, .bool false, .bool false, .bool false, .bool false, .bool false, .bool false, .bool false, .bool false, .bool false, .bool false, .bool false, .bool false, .bool false, .bool false, .bool false, .bool false, .bool false, .bool false, .bool false, .bool false, .bool false, .bool false, .bool false, .bool false, .bool false, .bool false, .bool false, .bool false, .bool false, .bool false, .bool false, .bool false, .bool false, .bool false, .bool false, .bool false, .bool false, .bool false, .bool false, .bool false, .bool false, .bool false, .bool false, .bool false, .bool false, .bool false, .bool false, .bool false, .bool false, .bool false, .bool false, .bool false, .bool false, .bool false, .bool false, .bool false, .bool false, .bool false, .bool false, .bool false, .bool false, .bool false, .bool false, .bool false, .bool false, .bool false, .bool false, .bool false, .bool false, .bool false, .bool false, .bool false, .bool false, .bool false, .bool false, .bool false, .bool false, .bool false, .bool false, .bool false, .bool false, .bool false, .bool false, .bool false, .bool false, .bool false, .bool false, .bool false, .bool false, .bool false, .bool false, .bool false, .bool false, .bool false, .bool false, .bool false, .bool false, .bool false, .bool false, .bool false, .bool false, .bool false, .bool false, .bool false, .bool false, .bool false, .bool false, .bool false, .bool false, .bool false, .bool false, .bool false, .bool false, .bool false, .bool false]) := by kernel_rfl
theorem und_143 : Tryd.prog.underlying 143 = some (.array 256 4) := by kernel_rfl
theorem tyk_147 : tyk Tryd.prog 147 = some (false, 1) := by kernel_rfl
theorem tyk_156 : tyk Tryd.prog 156 = some (false, 1) := by kernel_rfl
theorem zk_156 : zeroK Tryd.prog 156 = some (1, .int .i64 0) := by kernel_rfl
theorem und_156 : Tryd.prog.underlying 156 = some (.int .i64) := by kernel_rfl
theorem tyk_163 : tyk Tryd.prog 163 = some (false, 1) := by kernel_rfl
theorem zk_163 : zeroK Tryd.prog 163 = some (1, .int .u32 0) := by kernel_rfl
theorem und_163 : Tryd.prog.underlying 163 = some (.int .u32) := by kernel_rfl
theorem tyk_174 : tyk Tryd.prog 174 = some (false, 1) := by kernel_rfl
theorem zk_174 : zeroK Tryd.prog 174 = some (1, .int .u64 0) := by kernel_rfl
theorem und_174 : Tryd.prog.underlying 174 = some (.int .u64) := by kernel_rfl
theorem tyk_178 : tyk Tryd.prog 178 = some (false, 1) := by kernel_rfl
theorem tyk_183 : tyk Tryd.prog 183 = some (false, 1) := by kernel_rfl
theorem tyk_186 : tyk Tryd.prog 186 = some (true, 256) := by kernel_rfl
theorem zk_186 : zeroK Tryd.prog 186 = some (256, .agg [.int .u8 0, .int .u8 0, .int .u8 0, .int .u8 0, .int .u8 0, .int .u8 0, .int .u8 0, .int .u8 0, .int .u8 0, .int .u8 0, .int .u8 0, .int .u8 0, .int .u8 0, .int .u8 0, .int .u8 0, .int .u8 0, .int .u8 0, .int .u8 0, .int .u8 0, .int .u8 0, .int .u8 0, .int .u8 0, .int .u8 0, .int .u8 0, .int .u8 0, .int .u8 0, .int .u8 0, .int .u8 0, .int .u8 0, .int .u8 0, .int .u8 0, .int .u8 0, .int .u8 0, .int .u8 0, .int .u8 0, .int .u8 0, .int .u8 0, .int .u8 0, .int .u8 0, .int .u8 0, .int .u8 0, .int .u8 0, .int .u8 0, .int .u8 0, .int .u8 0, .int .u8 0, .int .u8 0, .int .u8 0, .int .u8 0, .int .u8 0, .int .u8 0, .int .u8 0, .int .u8 0, .int .u8 0, .int .u8 0, .int .u8 0, .int .u8 0, .int .u8 0, .int .u8 0, .int .u8 0, .int .u8 0, .int .u8 0, .int .u8 0, .int .u8 0, .int .u8 0, .int .u8 0, .int .u8 0, .int .u8 0, .int .u8 0, .int .u8 0, .int .u8 0, .int .u8 0, .int .u8 0, .int .u8 0, .int .u8 0, .int .u8 0, .int .u8 0, .int .u8 0, .int .u8 0, .int .u8 0, .int .u8 0, .int .u8 0, .int .u8 0, .int .u8 0, .int .u8 0, .int .u8 0, .int .u8 0, .int .u8 0, .int .u8 0, .int .u8 0, .int .u8 0, .int .u8 0, .int .u8 0, .int .u8 0, .int .u8 0, .int .u8 0, .int .u8 0, .int .u8 0, .int .u8 0, .int .u8 0, .int .u8 0, .int .u8 0, .int .u8 0, .int .u8 0, .int .u8 0, .int .u8 0, .int .u8 0, .int .u8 0, .int .u8 0, .int .u8 0, .int .u8 0, .int .u8 0, .int .u8 0, .int .u8 0, .int .u8 0, .int .u8 0, .int .u8 0, .int .u8 0, .int .u8 0, .int .u8 0, .int .u8 0, .int .u8 0, .int .u8 0, .int .u8 0, .int .u8 0, .int .u8 0, .int .u8 0, .int .u8 0, .int .u8 0, .int .u8 0, .int .u8 0, .int .u8 0, .int .u8 0, .int .u8 0, .int .u8 0, .int .u8 0, .int .u8 0, .int .u8 0, .int .u8 0, .int .u8 0, .int .u8 0, .int .u8 0, .int .u8 0, .int .u8 0, .int .u8 0, .int .u8 0, .int .u8 0, .int .u8 0, .int .u8 0, .int .u8 0, .int .u8 0, .int .u8 0, .int .u8 0, .int .u8 0, .int .u8 0, .int .u8 0, .int .u8 0, .int .u8 0, .int .u8 0, .int .u8 0, .int .u8 0, .int .u8 0, .int .u8 0, .int .u8 0, .int .u8 0, .int .u8 0, .int .u8 0, .int .u8 0, .int .u8 0, .int .u8 0, .int .u8 0, .int .u8 0, .int .u8 0, .int .u8 0, .int .u8 0, .int .u8 0, .int .u8 0, .int .u8 0, .int .u8 0, .int .u8 0, .int .u8 0, .int .u8 0, .int .u8 0, .int .u8 0, .int .u8 0, .int .u8 0, .int .u8 0, .int .u8 0, .int .u8 0, .int .u8 0, .int .u8 0, .int .u8 0, .int .u8 0, .int .u8 0, .int .u8 0, .int .u8 0, .int .u8 0, .int .u8 0, .int .u8 0, .int .u8 0, .int .u8 0, .int .u8 0, .int .u8 0, .int .u8 0, .int .u8 0, .int .u8 0, .int .u8 0, .int .u8 0, .int .u8 0, .int .u8 0, .int .u8 0, .int .u8 0, .int .u8 0, .int .u8 0, .int .u8 0, .int .u8 0, .int .u8 0, .int .u8 0, .int .u8 0, .int .u8 0, .int .u8 0, .int .u8 0, .int .u8 0, .int .u8 0, .int .u8 0, .int .u8 0, .int .u8 0, .int .u8 0, .int .u8 0, .int .u8 0, .int .u8 0, .int .u8 0, .int .u8 0, .int .u8 0, .int .u8 0, .int .u8 0, .int .u8 0, .int .u8 0, .int .u8 0, .int .u8 0, .int .u8 0, .int .u8 0, .int .u8 0, .int .u8 0, .int .u8 0, .int .u8 0, .int .u8 0, .int .u8 0, .int .u8 0, .int .u8 0, .int .u8 0, .int .u8 0, .int .u8 0, .int .u8 0, .int .u8 0, .int .u8 0]) := by kernel_rfl
theorem eg_186 : Tryd.prog.eqGuardType Tryd.prog.depth 186 = false := by kernel_rfl
theorem und_186 : Tryd.prog.underlying 186 = some (.array 256 5) := by kernel_rfl
theorem tyk_187 : tyk Tryd.prog 187 = some (true, 2) := by kernel_rfl
theorem zk_187 : zeroK Tryd.prog 187 = some (2, .agg [.int .u8 0, .int .u8 0]) := by kernel_rfl
theorem fo_187_0 : fieldOff Tryd.prog 187 0 = some 0 := by kernel_rfl
theorem fo_187_1 : fieldOff Tryd.prog 187 1 = some 1 := by kernel_rfl
theorem tyk_188 : tyk Tryd.prog 188 = some (true, 2) := by kernel_rfl
theorem zk_188 : zeroK Tryd.prog 188 = some (2, .agg [.int .u8 0, .int .u8 0]) := by kernel_rfl
theorem fo_188_0 : fieldOff Tryd.prog 188 0 = some 0 := by kernel_rfl
theorem fo_188_1 : fieldOff Tryd.prog 188 1 = some 1 := by kernel_rfl
theorem fe_188 : flatStruct Tryd.prog 188 = some [0, 0] := by kernel_rfl
theorem pl_188 : placesK Tryd.prog 188 = some [(0, 1), (1, 1)] := by kernel_rfl
theorem tyk_189 : tyk Tryd.prog 189 = some (true, 32) := by kernel_rfl
theorem zk_189 : zeroK Tryd.prog 189 = some (32, .agg [.int .u8 0, .int .u8 0, .int .u8 0, .int .u8 0, .int .u8 0, .int .u8 0, .int .u8 0, .int .u8 0, .int .u8 0, .int .u8 0, .int .u8 0, .int .u8 0, .int .u8 0, .int .u8 0, .int .u8 0, .int .u8 0, .int .u8 0, .int .u8 0, .int .u8 0, .int .u8 0, .int .u8 0, .int .u8 0, .int .u8 0, .int .u8 0, .int .u8 0, .int .u8 0, .int .u8 0, .int .u8 0, .int .u8 0, .int .u8 0, .int .u8 0, .int .u8 0]) := by kernel_rfl
theorem und_189 : Tryd.prog.underlying 189 = some (.array 16 188) := by kernel_rfl
theorem tyk_203 : tyk Tryd.prog 203 = some (false, 1) := by kernel_rfl
theorem cok_3 : callOK Tryd.prog 3 = true := by kernel_rfl
theorem cok_4 : callOK Tryd.prog 4 = true := by kernel_rfl
theorem cok_5 : callOK Tryd.prog 5 = true := by kernel_rfl
theorem cok_6 : callOK Tryd.prog 6 = true := by kernel_rfl
theorem cok_7 : callOK Tryd.prog 7 = true := by kernel_rfl
theorem cok_8 : callOK Tryd.prog 8 = true := by kernel_rfl
theorem cok_9 : callOK Tryd.prog 9 = true := by kernel_rfl
theorem cok_10 : callOK Tryd.prog 10 = true := by kernel_rfl
theorem cok_11 : callOK Tryd.prog 11 = true := by kernel_rfl
theorem cok_12 : callOK Tryd.prog 12 = true := by kernel_rfl
theorem cok_13 : callOK Tryd.prog 13 = true := by kernel_rfl
theorem cok_14 : callOK Tryd.prog 14 = true := by kernel_rfl
theorem cok_15 : callOK Tryd.prog 15 = true := by kernel_rfl
theorem cok_16 : callOK Tryd.prog 16 = true := by kernel_rfl
theorem cok_17 : callOK Tryd.prog 17 = true := by kernel_rfl
theorem cok_18 : callOK Tryd.prog 18 = true := by kernel_rfl
theorem cok_19 : callOK Tryd.prog 19 = true := by kernel_rfl
theorem cok_20 : callOK Tryd.prog 20 = true := by kernel_rfl
theorem cok_21 : callOK Tryd.prog 21 = true := by kernel_rfl
theorem cok_22 : callOK Tryd.prog 22 = true := by kernel_rfl
theorem cok_23 : callOK Tryd.prog 23 = true := by kernel_rfl
theorem cok_24 : callOK Tryd.prog 24 = true := by kernel_rfl
theorem cok_25 : callOK Tryd.prog 25 = true := by kernel_rfl
theorem cok_26 : callOK Tryd.prog 26 = true := by kernel_rfl
theorem cok_27 : callOK Tryd.prog 27 = true := by kernel_rfl
theorem cok_28 : callOK Tryd.prog 28 = true := by kernel_rfl
theorem cok_29 : callOK Tryd.prog 29 = true := by kernel_rfl
theorem cok_30 : callOK Tryd.prog 30 = true := by kernel_rfl
theorem cok_31 : callOK Tryd.prog 31 = true := by kernel_rfl
theorem cok_32 : callOK Tryd.prog 32 = true := by kernel_rfl
theorem cok_33 : callOK Tryd.prog 33 = true := by kernel_rfl
theorem cok_34 : callOK Tryd.prog 34 = true := by kernel_rfl
theorem cok_35 : callOK Tryd.prog 35 = true := by kernel_rfl
theorem cok_36 : callOK Tryd.prog 36 = true := by kernel_rfl
theorem cok_37 : callOK Tryd.prog 37 = true := by kernel_rfl
theorem cok_38 : callOK Tryd.prog 38 = true := by kernel_rfl
theorem cok_39 : callOK Tryd.prog 39 = true := by kernel_rfl
theorem cok_40 : callOK Tryd.prog 40 = true := by kernel_rfl
theorem cok_41 : callOK Tryd.prog 41 = true := by kernel_rfl
theorem cok_42 : callOK Tryd.prog 42 = true := by kernel_rfl
theorem cok_43 : callOK Tryd.prog 43 = true := by kernel_rfl
theorem cok_44 : callOK Tryd.prog 44 = true := by kernel_rfl
theorem cok_45 : callOK Tryd.prog 45 = true := by kernel_rfl
theorem cok_46 : callOK Tryd.prog 46 = true := by kernel_rfl
theorem cok_47 : callOK Tryd.prog 47 = true := by kernel_rfl
theorem cok_48 : callOK Tryd.prog 48 = true := by kernel_rfl
theorem cok_49 : callOK Tryd.prog 49 = true := by kernel_rfl
theorem cok_50 : callOK Tryd.prog 50 = true := by kernel_rfl
theorem cok_51 : callOK Tryd.prog 51 = true := by kernel_rfl
theorem cok_52 : callOK Tryd.prog 52 = true := by kernel_rfl
theorem cok_53 : callOK Tryd.prog 53 = true := by kernel_rfl
theorem cok_54 : callOK Tryd.prog 54 = true := by kernel_rfl
theorem cok_55 : callOK Tryd.prog 55 = true := by kernel_rfl
theorem cok_56 : callOK Tryd.prog 56 = true := by kernel_rfl
theorem cok_57 : callOK Tryd.prog 57 = true := by kernel_rfl
theorem cok_58 : callOK Tryd.prog 58 = true := by kernel_rfl
theorem cok_59 : callOK Tryd.prog 59 = true := by kernel_rfl
theorem cok_60 : callOK Tryd.prog 60 = true := by kernel_rfl
theorem cok_61 : callOK Tryd.prog 61 = true := by kernel_rfl
theorem cok_62 : callOK Tryd.prog 62 = true := by kernel_rfl
theorem cok_63 : callOK Tryd.prog 63 = true := by kernel_rfl
theorem cok_64 : callOK Tryd.prog 64 = true := by kernel_rfl
theorem cok_65 : callOK Tryd.prog 65 = true := by kernel_rfl
theorem cok_66 : callOK Tryd.prog 66 = true := by kernel_rfl
theorem cok_67 : callOK Tryd.prog 67 = true := by kernel_rfl
theorem cok_68 : callOK Tryd.prog 68 = true := by kernel_rfl
theorem cok_69 : callOK Tryd.prog 69 = true := by kernel_rfl
theorem cok_70 : callOK Tryd.prog 70 = true := by kernel_rfl
theorem cok_71 : callOK Tryd.prog 71 = true := by kernel_rfl
theorem cok_72 : callOK Tryd.prog 72 = true := by kernel_rfl
theorem cok_73 : callOK Tryd.prog 73 = true := by kernel_rfl
theorem cok_74 : callOK Tryd.prog 74 = true := by kernel_rfl
theorem cok_75 : callOK Tryd.prog 75 = true := by kernel_rfl
theorem cok_76 : callOK Tryd.prog 76 = true := by kernel_rfl
theorem cok_77 : callOK Tryd.prog 77 = true := by kernel_rfl
theorem cok_78 : callOK Tryd.prog 78 = true := by kernel_rfl
theorem cok_79 : callOK Tryd.prog 79 = true := by kernel_rfl
theorem cok_80 : callOK Tryd.prog 80 = true := by kernel_rfl
theorem cok_81 : callOK Tryd.prog 81 = true := by kernel_rfl
theorem cok_82 : callOK Tryd.prog 82 = true := by kernel_rfl
theorem cok_83 : callOK Tryd.prog 83 = true := by kernel_rfl
theorem cok_84 : callOK Tryd.prog 84 = true := by kernel_rfl
theorem cok_85 : callOK Tryd.prog 85 = true := by kernel_rfl
theorem cok_86 : callOK Tryd.prog 86 = true := by kernel_rfl
theorem cok_87 : callOK Tryd.prog 87 = true := by kernel_rfl
theorem cok_88 : callOK Tryd.prog 88 = true := by kernel_rfl
theorem cok_89 : callOK Tryd.prog 89 = true := by kernel_rfl
theorem cok_90 : callOK Tryd.prog 90 = true := by kernel_rfl
theorem cok_91 : callOK Tryd.prog 91 = true := by kernel_rfl
theorem cok_92 : callOK Tryd.prog 92 = true := by kernel_rfl
theorem cok_93 : callOK Tryd.prog 93 = true := by kernel_rfl
theorem cok_94 : callOK Tryd.prog 94 = true := by kernel_rfl
theorem cok_95 : callOK Tryd.prog 95 = true := by kernel_rfl
theorem cok_96 : callOK Tryd.prog 96 = true := by kernel_rfl
theorem cok_97 : callOK Tryd.prog 97 = true := by kernel_rfl
theorem cok_98 : callOK Tryd.prog 98 = true := by kernel_rfl
theorem cok_99 : callOK Tryd.prog 99 = true := by kernel_rfl
theorem cok_100 : callOK Tryd.prog 100 = true := by kernel_rfl
theorem cok_101 : callOK Tryd.prog 101 = true := by kernel_rfl
theorem cok_102 : callOK Tryd.prog 102 = true := by kernel_rfl
theorem cok_103 : callOK Tryd.prog 103 = true := by kernel_rfl
theorem cok_104 : callOK Tryd.prog 104 = true := by kernel_rfl
theorem cok_105 : callOK Tryd.prog 105 = true := by kernel_rfl
theorem cok_106 : callOK Tryd.prog 106 = true := by kernel_rfl
theorem cok_107 : callOK Tryd.prog 107 = true := by kernel_rfl
theorem cok_108 : callOK Tryd.prog 108 = true := by kernel_rfl
theorem cok_109 : callOK Tryd.prog 109 = true := by kernel_rfl
theorem cok_110 : callOK Tryd.prog 110 = true := by kernel_rfl
theorem cok_111 : callOK Tryd.prog 111 = true := by kernel_rfl
theorem cok_112 : callOK Tryd.prog 112 = true := by kernel_rfl
theorem cok_113 : callOK Tryd.prog 113 = true := by kernel_rfl
theorem cok_114 : callOK Tryd.prog 114 = true := by kernel_rfl
theorem cok_115 : callOK Tryd.prog 115 = true := by kernel_rfl
theorem cok_116 : callOK Tryd.prog 116 = true := by kernel_rfl
theorem cok_117 : callOK Tryd.prog 117 = true := by kernel_rfl
theorem cok_118 : callOK Tryd.prog 118 = true := by kernel_rfl
theorem cok_119 : callOK Tryd.prog 119 = true := by kernel_rfl
theorem cok_120 : callOK Tryd.prog 120 = true := by kernel_rfl
theorem cok_121 : callOK Tryd.prog 121 = true := by kernel_rfl
theorem cok_122 : callOK Tryd.prog 122 = true := by kernel_rfl
theorem cok_123 : callOK Tryd.prog 123 = true := by kernel_rfl
theorem cok_125 : callOK Tryd.prog 125 = true := by kernel_rfl
theorem cok_126 : callOK Tryd.prog 126 = true := by kernel_rfl
theorem cok_127 : callOK Tryd.prog 127 = true := by kernel_rfl
theorem cok_128 : callOK Tryd.prog 128 = true := by kernel_rfl
theorem cok_129 : callOK Tryd.prog 129 = true := by kernel_rfl
theorem cok_130 : callOK Tryd.prog 130 = true := by kernel_rfl
theorem cok_131 : callOK Tryd.prog 131 = true := by kernel_rfl
theorem cok_132 : callOK Tryd.prog 132 = true := by kernel_rfl
theorem cok_133 : callOK Tryd.prog 133 = true := by kernel_rfl
theorem cok_134 : callOK Tryd.prog 134 = true := by kernel_rfl
theorem cok_135 : callOK Tryd.prog 135 = true := by kernel_rfl
theorem cok_136 : callOK Tryd.prog 136 = true := by kernel_rfl
theorem cok_137 : callOK Tryd.prog 137 = true := by kernel_rfl
theorem cok_138 : callOK Tryd.prog 138 = true := by kernel_rfl
theorem cok_139 : callOK Tryd.prog 139 = true := by kernel_rfl
theorem cok_140 : callOK Tryd.prog 140 = true := by kernel_rfl
theorem cok_141 : callOK Tryd.prog 141 = true := by kernel_rfl
theorem cok_142 : callOK Tryd.prog 142 = true := by kernel_rfl
theorem cok_143 : callOK Tryd.prog 143 = true := by kernel_rfl
theorem cok_144 : callOK Tryd.prog 144 = true := by kernel_rfl
theorem cok_145 : callOK Tryd.prog 145 = true := by kernel_rfl
theorem cok_146 : callOK Tryd.prog 146 = true := by kernel_rfl
theorem cok_147 : callOK Tryd.prog 147 = true := by kernel_rfl
theorem cok_148 : callOK Tryd.prog 148 = true := by kernel_rfl
theorem cok_149 : callOK Tryd.prog 149 = true := by kernel_rfl
theorem cok_150 : callOK Tryd.prog 150 = true := by kernel_rfl
theorem cok_151 : callOK Tryd.prog 151 = true := by kernel_rfl
theorem cok_152 : callOK Tryd.prog 152 = true := by kernel_rfl
theorem cok_153 : callOK Tryd.prog 153 = true := by kernel_rfl
theorem cok_154 : callOK Tryd.prog 154 = true := by kernel_rfl
theorem cok_155 : callOK Tryd.prog 155 = true := by kernel_rfl
theorem cok_156 : callOK Tryd.prog 156 = true := by kernel_rfl
theorem cok_157 : callOK Tryd.prog 157 = true := by kernel_rfl
theorem cok_158 : callOK Tryd.prog 158 = true := by kernel_rfl
theorem cok_159 : callOK Tryd.prog 159 = true := by kernel_rfl
theorem cok_160 : callOK Tryd.prog 160 = true := by kernel_rfl
theorem cok_161 : callOK Tryd.prog 161 = true := by kernel_rfl
theorem cok_162 : callOK Tryd.prog 162 = true := by kernel_rfl
theorem cok_163 : callOK Tryd.prog 163 = true := by kernel_rfl
theorem cok_164 : callOK Tryd.prog 164 = true := by kernel_rfl
theorem cok_165 : callOK Tryd.prog 165 = true := by kernel_rfl
theorem cok_166 : callOK Tryd.prog 166 = true := by kernel_rfl
theorem cok_167 : callOK Tryd.prog 167 = true := by kernel_rfl
theorem cok_168 : callOK Tryd.prog 168 = true := by kernel_rfl
theorem cok_169 : callOK Tryd.prog 169 = true := by kernel_rfl
theorem cok_170 : callOK Tryd.prog 170 = true := by kernel_rfl
theorem cok_171 : callOK Tryd.prog 171 = true := by kernel_rfl
theorem cok_172 : callOK Tryd.prog 172 = true := by kernel_rfl
theorem cok_173 : callOK Tryd.prog 173 = true := by kernel_rfl
theorem cok_174 : callOK Tryd.prog 174 = true := by kernel_rfl
theorem cok_175 : callOK Tryd.prog 175 = true := by kernel_rfl
theorem cok_176 : callOK Tryd.prog 176 = true := by kernel_rfl
theorem cok_177 : callOK Tryd.prog 177 = true := by kernel_rfl
theorem cok_178 : callOK Tryd.prog 178 = true := by kernel_rfl
theorem cok_179 : callOK Tryd.prog 179 = true := by kernel_rfl
theorem cok_180 : callOK Tryd.prog 180 = true := by kernel_rfl
theorem cok_181 : callOK Tryd.prog 181 = true := by kernel_rfl
theorem cok_182 : callOK Tryd.prog 182 = true := by kernel_rfl
theorem cok_183 : callOK Tryd.prog 183 = true := by kernel_rfl
theorem cok_184 : callOK Tryd.prog 184 = true := by kernel_rfl
theorem cok_185 : callOK Tryd.prog 185 = true := by kernel_rfl
theorem cok_186 : callOK Tryd.prog 186 = true := by kernel_rfl
theorem cok_187 : callOK Tryd.prog 187 = true := by kernel_rfl
theorem cok_188 : callOK Tryd.prog 188 = true := by kernel_rfl
theorem cok_189 : callOK Tryd.prog 189 = true := by kernel_rfl
theorem cok_190 : callOK Tryd.prog 190 = true := by kernel_rfl
theorem cok_191 : callOK Tryd.prog 191 = true := by kernel_rfl
theorem cok_192 : callOK Tryd.prog 192 = true := by kernel_rfl
theorem cok_193 : callOK Tryd.prog 193 = true := by kernel_rfl
theorem cok_194 : callOK Tryd.prog 194 = true := by kernel_rfl
theorem cok_195 : callOK Tryd.prog 195 = true := by kernel_rfl
theorem cok_196 : callOK Tryd.prog 196 = true := by kernel_rfl
theorem cok_197 : callOK Tryd.prog 197 = true := by kernel_rfl
theorem cok_198 : callOK Tryd.prog 198 = true := by kernel_rfl
theorem cok_200 : callOK Tryd.prog 200 = true := by kernel_rfl
theorem cok_201 : callOK Tryd.prog 201 = true := by kernel_rfl
theorem cok_202 : callOK Tryd.prog 202 = true := by kernel_rfl
theorem cok_204 : callOK Tryd.prog 204 = true := by kernel_rfl
theorem cok_226 : callOK Tryd.prog 226 = true := by kernel_rfl
end Go.Proofs.YteocnbeefedbkaaDoor
