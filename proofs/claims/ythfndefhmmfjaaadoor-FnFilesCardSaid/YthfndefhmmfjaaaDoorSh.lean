/-
  DERIVED: THE SHELF's CONTRACTS AT THIS DUMP, IN PLAIN WORDS (tools/lay-plain.mjs out of 'YthfndefhmmfjaaaDoorSh.lean', which tools/lay-shelf.mjs wrote): THE SAME DECLARATIONS UNDER THE SAME NAMES: 'import', 'namespace', 'open', 'def', 'theorem' AND NOTHING ELSE: no command of the shelf's: FOR A HAND-IN. Each laying: the table of numbers ('.._ren') and one theorem, a field a fact of the dump's own or the kernel's comparison; each contract: ONE APPLICATION.
-/
import Derived.Shelf.Strings.SlTrimAscii
import Derived.Test.YthfndefhmmfjaaaDoorProg
namespace Go.Proofs
open Go.Shelf
def Tryd.lays160_ren : Go.Shelf.Ren := ⟨fun | 160 => 270 | 232 => 301 | 231 => 300 | 227 => 302 | 234 => 304 | 233 => 303 | 236 => 306 | 235 => 305 | 228 => 319 | 271 => 322 | 151 => 321 | 197 => 320 | 120 => 341 | 152 => 340 | 260 => 339 | 137 => 354 | 119 => 355 | 224 => 356 | 225 => 357 | 217 => 363 | 266 => 366 | n => n, fun | 9 => 9 | 4 => 4 | 3 => 3 | 5 => 5 | 117 => 253 | 116 => 252 | 0 => 0 | 124 => 256 | 21 => 21 | 105 => 271 | 46 => 236 | 119 => 300 | 139 => 303 | 138 => 302 | n => n, fun | 3 => 0 | 4 => 1 | n => n⟩
theorem Tryd.lays160 : Go.Proofs.Lays.n160 Tryd.prog Tryd.lays160_ren := {
  mixed := by kernel_rfl
  f119 := Tryd.func355.trans (congrArg some (by kernel_rfl))
  f120 := Tryd.func341.trans (congrArg some (by kernel_rfl))
  f137 := Tryd.func354.trans (congrArg some (by kernel_rfl))
  f151 := Tryd.func321.trans (congrArg some (by kernel_rfl))
  f152 := Tryd.func340.trans (congrArg some (by kernel_rfl))
  f160 := Tryd.func270.trans (congrArg some (by kernel_rfl))
  f197 := Tryd.func320.trans (congrArg some (by kernel_rfl))
  f217 := Tryd.func363.trans (congrArg some (by kernel_rfl))
  f224 := Tryd.func356.trans (congrArg some (by kernel_rfl))
  f225 := Tryd.func357.trans (congrArg some (by kernel_rfl))
  f227 := Tryd.func302.trans (congrArg some (by kernel_rfl))
  f228 := Tryd.func319.trans (congrArg some (by kernel_rfl))
  f231 := Tryd.func300.trans (congrArg some (by kernel_rfl))
  f232 := Tryd.func301.trans (congrArg some (by kernel_rfl))
  f233 := Tryd.func303.trans (congrArg some (by kernel_rfl))
  f234 := Tryd.func304.trans (congrArg some (by kernel_rfl))
  f235 := Tryd.func305.trans (congrArg some (by kernel_rfl))
  f236 := Tryd.func306.trans (congrArg some (by kernel_rfl))
  f260 := Tryd.func339.trans (congrArg some (by kernel_rfl))
  f266 := Tryd.func366.trans (congrArg some (by kernel_rfl))
  f271 := Tryd.func322.trans (congrArg some (by kernel_rfl))
  t0 := Tryd.underlying0
  a0 := Tryd.isAgg0
  z0 := Tryd.sizeOf0
  v0 := Tryd.zeroValue0
  t3 := Tryd.underlying3
  a3 := Tryd.isAgg3
  z3 := Tryd.sizeOf3
  v3 := Tryd.zeroValue3
  t4 := Tryd.underlying4
  a4 := Tryd.isAgg4
  z4 := Tryd.sizeOf4
  v4 := Tryd.zeroValue4
  t5 := Tryd.underlying5
  a5 := Tryd.isAgg5
  z5 := Tryd.sizeOf5
  v5 := Tryd.zeroValue5
  t9 := Tryd.underlying9
  a9 := Tryd.isAgg9
  z9 := Tryd.sizeOf9
  v9 := Tryd.zeroValue9
  t21 := Tryd.underlying21
  a21 := Tryd.isAgg21
  z21 := Tryd.sizeOf21
  v21 := Tryd.zeroValue21
  t46 := Tryd.underlying236
  a46 := Tryd.isAgg236
  z46 := Tryd.sizeOf236
  v46 := Tryd.zeroValue236
  t105 := Tryd.underlying271
  a105 := Tryd.isAgg271
  z105 := Tryd.sizeOf271
  v105 := Tryd.zeroValue271
  t116 := Tryd.underlying252
  a116 := Tryd.isAgg252
  z116 := Tryd.sizeOf252
  t117 := Tryd.underlying253
  a117 := Tryd.isAgg253
  z117 := Tryd.sizeOf253
  v117 := Tryd.zeroValue253
  t119 := Tryd.underlying300
  a119 := Tryd.isAgg300
  z119 := Tryd.sizeOf300
  t124 := Tryd.underlying256
  a124 := Tryd.isAgg256
  z124 := Tryd.sizeOf256
  v124 := Tryd.zeroValue256
  t138 := Tryd.underlying302
  a138 := Tryd.isAgg302
  z138 := Tryd.sizeOf302
  v138 := Tryd.zeroValue302
  t139 := Tryd.underlying303
  a139 := Tryd.isAgg303
  z139 := Tryd.sizeOf303
  v139 := Tryd.zeroValue303
  g3 := by kernel_rfl
  g4 := by kernel_rfl }
end Go.Proofs
