/-
  DERIVED: THE SHELF's CONTRACTS AT THIS DUMP, IN PLAIN WORDS (tools/lay-plain.mjs out of 'YtechbeegbhlppaaGreatDoorTr0.lean', which tools/lay-shelf.mjs wrote): THE SAME DECLARATIONS UNDER THE SAME NAMES: 'import', 'namespace', 'open', 'def', 'theorem' AND NOTHING ELSE: no command of the shelf's: FOR A HAND-IN. Each laying: the table of numbers ('.._ren') and one theorem, a field a fact of the dump's own or the kernel's comparison; each contract: ONE APPLICATION.
-/
import Derived.Shelf.Strings.SlTrimAscii
import Derived.Test.YtechbeegbhlppaaGreatDoorProg
namespace Go.Proofs
open Go.Shelf
def Tryz.trimL_ren : Go.Shelf.Ren := ⟨fun | 160 => 235 | 232 => 277 | 231 => 276 | 227 => 278 | 234 => 280 | 233 => 279 | 236 => 282 | 235 => 281 | 228 => 315 | 271 => 318 | 151 => 317 | 197 => 316 | 120 => 332 | 152 => 331 | 260 => 330 | 137 => 334 | 119 => 335 | 224 => 336 | 225 => 337 | 217 => 338 | 266 => 339 | n => n, fun | 9 => 9 | 4 => 4 | 3 => 3 | 5 => 5 | 117 => 312 | 116 => 311 | 0 => 0 | 124 => 315 | 21 => 21 | 105 => 341 | 46 => 300 | 119 => 354 | 139 => 357 | 138 => 356 | n => n, fun | 3 => 0 | 4 => 1 | n => n⟩
theorem Tryz.trimL : Go.Proofs.Lays.n160 Tryz.prog Tryz.trimL_ren := {
  mixed := by kernel_rfl
  f119 := Tryz.func335.trans (congrArg some (by kernel_rfl))
  f120 := Tryz.func332.trans (congrArg some (by kernel_rfl))
  f137 := Tryz.func334.trans (congrArg some (by kernel_rfl))
  f151 := Tryz.func317.trans (congrArg some (by kernel_rfl))
  f152 := Tryz.func331.trans (congrArg some (by kernel_rfl))
  f160 := Tryz.func235.trans (congrArg some (by kernel_rfl))
  f197 := Tryz.func316.trans (congrArg some (by kernel_rfl))
  f217 := Tryz.func338.trans (congrArg some (by kernel_rfl))
  f224 := Tryz.func336.trans (congrArg some (by kernel_rfl))
  f225 := Tryz.func337.trans (congrArg some (by kernel_rfl))
  f227 := Tryz.func278.trans (congrArg some (by kernel_rfl))
  f228 := Tryz.func315.trans (congrArg some (by kernel_rfl))
  f231 := Tryz.func276.trans (congrArg some (by kernel_rfl))
  f232 := Tryz.func277.trans (congrArg some (by kernel_rfl))
  f233 := Tryz.func279.trans (congrArg some (by kernel_rfl))
  f234 := Tryz.func280.trans (congrArg some (by kernel_rfl))
  f235 := Tryz.func281.trans (congrArg some (by kernel_rfl))
  f236 := Tryz.func282.trans (congrArg some (by kernel_rfl))
  f260 := Tryz.func330.trans (congrArg some (by kernel_rfl))
  f266 := Tryz.func339.trans (congrArg some (by kernel_rfl))
  f271 := Tryz.func318.trans (congrArg some (by kernel_rfl))
  t0 := Tryz.underlying0
  a0 := Tryz.isAgg0
  z0 := Tryz.sizeOf0
  v0 := Tryz.zeroValue0
  t3 := Tryz.underlying3
  a3 := Tryz.isAgg3
  z3 := Tryz.sizeOf3
  v3 := Tryz.zeroValue3
  t4 := Tryz.underlying4
  a4 := Tryz.isAgg4
  z4 := Tryz.sizeOf4
  v4 := Tryz.zeroValue4
  t5 := Tryz.underlying5
  a5 := Tryz.isAgg5
  z5 := Tryz.sizeOf5
  v5 := Tryz.zeroValue5
  t9 := Tryz.underlying9
  a9 := Tryz.isAgg9
  z9 := Tryz.sizeOf9
  v9 := Tryz.zeroValue9
  t21 := Tryz.underlying21
  a21 := Tryz.isAgg21
  z21 := Tryz.sizeOf21
  v21 := Tryz.zeroValue21
  t46 := Tryz.underlying300
  a46 := Tryz.isAgg300
  z46 := Tryz.sizeOf300
  v46 := Tryz.zeroValue300
  t105 := Tryz.underlying341
  a105 := Tryz.isAgg341
  z105 := Tryz.sizeOf341
  v105 := Tryz.zeroValue341
  t116 := Tryz.underlying311
  a116 := Tryz.isAgg311
  z116 := Tryz.sizeOf311
  t117 := Tryz.underlying312
  a117 := Tryz.isAgg312
  z117 := Tryz.sizeOf312
  v117 := Tryz.zeroValue312
  t119 := Tryz.underlying354
  a119 := Tryz.isAgg354
  z119 := Tryz.sizeOf354
  t124 := Tryz.underlying315
  a124 := Tryz.isAgg315
  z124 := Tryz.sizeOf315
  v124 := Tryz.zeroValue315
  t138 := Tryz.underlying356
  a138 := Tryz.isAgg356
  z138 := Tryz.sizeOf356
  v138 := Tryz.zeroValue356
  t139 := Tryz.underlying357
  a139 := Tryz.isAgg357
  z139 := Tryz.sizeOf357
  v139 := Tryz.zeroValue357
  g3 := by kernel_rfl
  g4 := by kernel_rfl }
end Go.Proofs
