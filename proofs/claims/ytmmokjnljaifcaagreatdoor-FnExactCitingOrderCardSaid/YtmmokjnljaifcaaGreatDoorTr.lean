/-
  DERIVED: THE SHELF's CONTRACTS AT THIS DUMP, IN PLAIN WORDS (tools/lay-plain.mjs out of 'YtmmokjnljaifcaaGreatDoorTr0.lean', which tools/lay-shelf.mjs wrote): THE SAME DECLARATIONS UNDER THE SAME NAMES: 'import', 'namespace', 'open', 'def', 'theorem' AND NOTHING ELSE: no command of the shelf's: FOR A HAND-IN. Each laying: the table of numbers ('.._ren') and one theorem, a field a fact of the dump's own or the kernel's comparison; each contract: ONE APPLICATION.
-/
import Derived.Shelf.Strings.SlTrimAscii
import Derived.Test.YtmmokjnljaifcaaGreatDoorProg
namespace Go.Proofs
open Go.Shelf
def Tryz.trimL_ren : Go.Shelf.Ren := ⟨fun | 160 => 237 | 232 => 299 | 231 => 298 | 227 => 300 | 234 => 302 | 233 => 301 | 236 => 304 | 235 => 303 | 228 => 341 | 271 => 344 | 151 => 343 | 197 => 342 | 120 => 368 | 152 => 367 | 260 => 366 | 137 => 388 | 119 => 389 | 224 => 390 | 225 => 391 | 217 => 398 | 266 => 400 | n => n, fun | 9 => 9 | 4 => 4 | 3 => 3 | 5 => 5 | 117 => 337 | 116 => 336 | 0 => 0 | 124 => 340 | 21 => 21 | 105 => 354 | 46 => 359 | 119 => 390 | 139 => 393 | 138 => 392 | n => n, fun | 3 => 0 | 4 => 1 | n => n⟩
theorem Tryz.trimL : Go.Proofs.Lays.n160 Tryz.prog Tryz.trimL_ren := {
  mixed := by kernel_rfl
  f119 := Tryz.func389.trans (congrArg some (by kernel_rfl))
  f120 := Tryz.func368.trans (congrArg some (by kernel_rfl))
  f137 := Tryz.func388.trans (congrArg some (by kernel_rfl))
  f151 := Tryz.func343.trans (congrArg some (by kernel_rfl))
  f152 := Tryz.func367.trans (congrArg some (by kernel_rfl))
  f160 := Tryz.func237.trans (congrArg some (by kernel_rfl))
  f197 := Tryz.func342.trans (congrArg some (by kernel_rfl))
  f217 := Tryz.func398.trans (congrArg some (by kernel_rfl))
  f224 := Tryz.func390.trans (congrArg some (by kernel_rfl))
  f225 := Tryz.func391.trans (congrArg some (by kernel_rfl))
  f227 := Tryz.func300.trans (congrArg some (by kernel_rfl))
  f228 := Tryz.func341.trans (congrArg some (by kernel_rfl))
  f231 := Tryz.func298.trans (congrArg some (by kernel_rfl))
  f232 := Tryz.func299.trans (congrArg some (by kernel_rfl))
  f233 := Tryz.func301.trans (congrArg some (by kernel_rfl))
  f234 := Tryz.func302.trans (congrArg some (by kernel_rfl))
  f235 := Tryz.func303.trans (congrArg some (by kernel_rfl))
  f236 := Tryz.func304.trans (congrArg some (by kernel_rfl))
  f260 := Tryz.func366.trans (congrArg some (by kernel_rfl))
  f266 := Tryz.func400.trans (congrArg some (by kernel_rfl))
  f271 := Tryz.func344.trans (congrArg some (by kernel_rfl))
  t0 := Tryz.underlying0
  a0 := Tryz.isAgg0
  z0 := Tryz.sizeOf0
  v0 := Tryz.zeroValue0
  t3 := Tryz.underlying3
  a3 := Tryz.isAgg3
  z3 := Tryz.sizeOf3
  v3 := Tryz.zeroValue3
  t4 := Tryz.underlying4
  a4 := Tryz.isAgg4
  z4 := Tryz.sizeOf4
  v4 := Tryz.zeroValue4
  t5 := Tryz.underlying5
  a5 := Tryz.isAgg5
  z5 := Tryz.sizeOf5
  v5 := Tryz.zeroValue5
  t9 := Tryz.underlying9
  a9 := Tryz.isAgg9
  z9 := Tryz.sizeOf9
  v9 := Tryz.zeroValue9
  t21 := Tryz.underlying21
  a21 := Tryz.isAgg21
  z21 := Tryz.sizeOf21
  v21 := Tryz.zeroValue21
  t46 := Tryz.underlying359
  a46 := Tryz.isAgg359
  z46 := Tryz.sizeOf359
  v46 := Tryz.zeroValue359
  t105 := Tryz.underlying354
  a105 := Tryz.isAgg354
  z105 := Tryz.sizeOf354
  v105 := Tryz.zeroValue354
  t116 := Tryz.underlying336
  a116 := Tryz.isAgg336
  z116 := Tryz.sizeOf336
  t117 := Tryz.underlying337
  a117 := Tryz.isAgg337
  z117 := Tryz.sizeOf337
  v117 := Tryz.zeroValue337
  t119 := Tryz.underlying390
  a119 := Tryz.isAgg390
  z119 := Tryz.sizeOf390
  t124 := Tryz.underlying340
  a124 := Tryz.isAgg340
  z124 := Tryz.sizeOf340
  v124 := Tryz.zeroValue340
  t138 := Tryz.underlying392
  a138 := Tryz.isAgg392
  z138 := Tryz.sizeOf392
  v138 := Tryz.zeroValue392
  t139 := Tryz.underlying393
  a139 := Tryz.isAgg393
  z139 := Tryz.sizeOf393
  v139 := Tryz.zeroValue393
  g3 := by kernel_rfl
  g4 := by kernel_rfl }
end Go.Proofs
