/-
  DERIVED: THE SHELF's CONTRACTS AT THIS DUMP, IN PLAIN WORDS (tools/lay-plain.mjs out of 'YthffmnpbonkpaaaSh.lean', which tools/lay-shelf.mjs wrote): THE SAME DECLARATIONS UNDER THE SAME NAMES: 'import', 'namespace', 'open', 'def', 'theorem' AND NOTHING ELSE: no command of the shelf's: FOR A HAND-IN. Each laying: the table of numbers ('.._ren') and one theorem, a field a fact of the dump's own or the kernel's comparison; each contract: ONE APPLICATION.
-/
import Derived.Shelf.Slices.In.SortNone
import Derived.Shelf.Sort.Plain
import Derived.Test.YthffmnpbonkpaaaProg
namespace Go.Proofs
open Go.Shelf
def Try.lays189_ren : Go.Shelf.Ren := ⟨fun | 189 => 237 | 125 => 287 | 257 => 286 | 128 => 312 | 129 => 313 | 294 => 303 | 295 => 304 | 296 => 305 | 297 => 306 | 298 => 307 | 299 => 308 | 216 => 309 | 300 => 310 | 301 => 311 | 328 => 320 | 329 => 321 | 330 => 322 | 331 => 323 | 332 => 324 | 215 => 280 | 343 => 328 | n => n, fun | 28 => 30 | 3 => 3 | 46 => 235 | 0 => 0 | 51 => 262 | 53 => 161 | 4 => 4 | 183 => 256 | 182 => 255 | 131 => 34 | 5 => 5 | 9 => 9 | 218 => 266 | 222 => 270 | 228 => 274 | 229 => 146 | n => n, fun | n => n⟩
theorem Try.lays189 : Go.Proofs.Lays.n189 Try.prog Try.lays189_ren := {
  mixed := by kernel_rfl
  f125 := Try.func287.trans (congrArg some (by kernel_rfl))
  f128 := Try.func312.trans (congrArg some (by kernel_rfl))
  f129 := Try.func313.trans (congrArg some (by kernel_rfl))
  f189 := Try.func237.trans (congrArg some (by kernel_rfl))
  f215 := Try.func280.trans (congrArg some (by kernel_rfl))
  f216 := Try.func309.trans (congrArg some (by kernel_rfl))
  f257 := Try.func286.trans (congrArg some (by kernel_rfl))
  f294 := Try.func303.trans (congrArg some (by kernel_rfl))
  f295 := Try.func304.trans (congrArg some (by kernel_rfl))
  f296 := Try.func305.trans (congrArg some (by kernel_rfl))
  f297 := Try.func306.trans (congrArg some (by kernel_rfl))
  f298 := Try.func307.trans (congrArg some (by kernel_rfl))
  f299 := Try.func308.trans (congrArg some (by kernel_rfl))
  f300 := Try.func310.trans (congrArg some (by kernel_rfl))
  f301 := Try.func311.trans (congrArg some (by kernel_rfl))
  f328 := Try.func320.trans (congrArg some (by kernel_rfl))
  f329 := Try.func321.trans (congrArg some (by kernel_rfl))
  f330 := Try.func322.trans (congrArg some (by kernel_rfl))
  f331 := Try.func323.trans (congrArg some (by kernel_rfl))
  f332 := Try.func324.trans (congrArg some (by kernel_rfl))
  f343 := Try.func328.trans (congrArg some (by kernel_rfl))
  t0 := Try.underlying0
  a0 := Try.isAgg0
  z0 := Try.sizeOf0
  v0 := Try.zeroValue0
  t3 := Try.underlying3
  a3 := Try.isAgg3
  z3 := Try.sizeOf3
  v3 := Try.zeroValue3
  t4 := Try.underlying4
  a4 := Try.isAgg4
  z4 := Try.sizeOf4
  v4 := Try.zeroValue4
  t5 := Try.underlying5
  a5 := Try.isAgg5
  z5 := Try.sizeOf5
  v5 := Try.zeroValue5
  t9 := Try.underlying9
  a9 := Try.isAgg9
  z9 := Try.sizeOf9
  v9 := Try.zeroValue9
  t28 := Try.underlying30
  a28 := Try.isAgg30
  z28 := Try.sizeOf30
  v28 := Try.zeroValue30
  t46 := Try.underlying235
  a46 := Try.isAgg235
  z46 := Try.sizeOf235
  v46 := Try.zeroValue235
  t51 := Try.underlying262
  a51 := Try.isAgg262
  z51 := Try.sizeOf262
  v51 := Try.zeroValue262
  t53 := Try.underlying161
  a53 := Try.isAgg161
  z53 := Try.sizeOf161
  v53 := Try.zeroValue161
  t131 := Try.underlying34
  a131 := Try.isAgg34
  z131 := Try.sizeOf34
  v131 := Try.zeroValue34
  t182 := Try.underlying255
  a182 := Try.isAgg255
  z182 := Try.sizeOf255
  v182 := Try.zeroValue255
  t183 := Try.underlying256
  a183 := Try.isAgg256
  z183 := Try.sizeOf256
  v183 := Try.zeroValue256
  t218 := Try.underlying266
  a218 := Try.isAgg266
  z218 := Try.sizeOf266
  v218 := Try.zeroValue266
  t222 := Try.underlying270
  a222 := Try.isAgg270
  z222 := Try.sizeOf270
  v222 := Try.zeroValue270
  t228 := Try.underlying274
  a228 := Try.isAgg274
  z228 := Try.sizeOf274
  v228 := Try.zeroValue274
  t229 := Try.underlying146
  a229 := Try.isAgg146
  z229 := Try.sizeOf146
  v229 := Try.zeroValue146 }
end Go.Proofs
