/-
  DERIVED: THE SHELF's CONTRACTS AT THIS DUMP, IN PLAIN WORDS (tools/lay-plain.mjs out of 'YtjfpdbhjoofllaaSh.lean', which tools/lay-shelf.mjs wrote): THE SAME DECLARATIONS UNDER THE SAME NAMES: 'import', 'namespace', 'open', 'def', 'theorem' AND NOTHING ELSE: no command of the shelf's: FOR A HAND-IN. Each laying: the table of numbers ('.._ren') and one theorem, a field a fact of the dump's own or the kernel's comparison; each contract: ONE APPLICATION.
-/
import Derived.Shelf.Slices.In.SortNone
import Derived.Shelf.Sort.Plain
import Derived.Test.YtjfpdbhjoofllaaProg
namespace Go.Proofs
open Go.Shelf
def Try.lays189_ren : Go.Shelf.Ren := ⟨fun | 189 => 96 | 125 => 125 | 257 => 124 | 128 => 147 | 129 => 148 | 294 => 138 | 295 => 139 | 296 => 140 | 297 => 141 | 298 => 142 | 299 => 143 | 216 => 144 | 300 => 145 | 301 => 146 | 328 => 154 | 329 => 155 | 330 => 156 | 331 => 157 | 332 => 158 | 215 => 118 | 343 => 160 | n => n, fun | 28 => 69 | 3 => 3 | 46 => 129 | 0 => 0 | 51 => 152 | 53 => 78 | 4 => 4 | 183 => 146 | 182 => 145 | 131 => 33 | 5 => 5 | 9 => 9 | 218 => 159 | 222 => 163 | 228 => 166 | 229 => 167 | n => n, fun | n => n⟩
theorem Try.lays189 : Go.Proofs.Lays.n189 Try.prog Try.lays189_ren := {
  mixed := by kernel_rfl
  f125 := Try.func125.trans (congrArg some (by kernel_rfl))
  f128 := Try.func147.trans (congrArg some (by kernel_rfl))
  f129 := Try.func148.trans (congrArg some (by kernel_rfl))
  f189 := Try.func96.trans (congrArg some (by kernel_rfl))
  f215 := Try.func118.trans (congrArg some (by kernel_rfl))
  f216 := Try.func144.trans (congrArg some (by kernel_rfl))
  f257 := Try.func124.trans (congrArg some (by kernel_rfl))
  f294 := Try.func138.trans (congrArg some (by kernel_rfl))
  f295 := Try.func139.trans (congrArg some (by kernel_rfl))
  f296 := Try.func140.trans (congrArg some (by kernel_rfl))
  f297 := Try.func141.trans (congrArg some (by kernel_rfl))
  f298 := Try.func142.trans (congrArg some (by kernel_rfl))
  f299 := Try.func143.trans (congrArg some (by kernel_rfl))
  f300 := Try.func145.trans (congrArg some (by kernel_rfl))
  f301 := Try.func146.trans (congrArg some (by kernel_rfl))
  f328 := Try.func154.trans (congrArg some (by kernel_rfl))
  f329 := Try.func155.trans (congrArg some (by kernel_rfl))
  f330 := Try.func156.trans (congrArg some (by kernel_rfl))
  f331 := Try.func157.trans (congrArg some (by kernel_rfl))
  f332 := Try.func158.trans (congrArg some (by kernel_rfl))
  f343 := Try.func160.trans (congrArg some (by kernel_rfl))
  t0 := Try.underlying0
  a0 := Try.isAgg0
  z0 := Try.sizeOf0
  v0 := Try.zeroValue0
  t3 := Try.underlying3
  a3 := Try.isAgg3
  z3 := Try.sizeOf3
  v3 := Try.zeroValue3
  t4 := Try.underlying4
  a4 := Try.isAgg4
  z4 := Try.sizeOf4
  v4 := Try.zeroValue4
  t5 := Try.underlying5
  a5 := Try.isAgg5
  z5 := Try.sizeOf5
  v5 := Try.zeroValue5
  t9 := Try.underlying9
  a9 := Try.isAgg9
  z9 := Try.sizeOf9
  v9 := Try.zeroValue9
  t28 := Try.underlying69
  a28 := Try.isAgg69
  z28 := Try.sizeOf69
  v28 := Try.zeroValue69
  t46 := Try.underlying129
  a46 := Try.isAgg129
  z46 := Try.sizeOf129
  v46 := Try.zeroValue129
  t51 := Try.underlying152
  a51 := Try.isAgg152
  z51 := Try.sizeOf152
  v51 := Try.zeroValue152
  t53 := Try.underlying78
  a53 := Try.isAgg78
  z53 := Try.sizeOf78
  v53 := Try.zeroValue78
  t131 := Try.underlying33
  a131 := Try.isAgg33
  z131 := Try.sizeOf33
  v131 := Try.zeroValue33
  t182 := Try.underlying145
  a182 := Try.isAgg145
  z182 := Try.sizeOf145
  v182 := Try.zeroValue145
  t183 := Try.underlying146
  a183 := Try.isAgg146
  z183 := Try.sizeOf146
  v183 := Try.zeroValue146
  t218 := Try.underlying159
  a218 := Try.isAgg159
  z218 := Try.sizeOf159
  v218 := Try.zeroValue159
  t222 := Try.underlying163
  a222 := Try.isAgg163
  z222 := Try.sizeOf163
  v222 := Try.zeroValue163
  t228 := Try.underlying166
  a228 := Try.isAgg166
  z228 := Try.sizeOf166
  v228 := Try.zeroValue166
  t229 := Try.underlying167
  a229 := Try.isAgg167
  z229 := Try.sizeOf167
  v229 := Try.zeroValue167 }
end Go.Proofs
