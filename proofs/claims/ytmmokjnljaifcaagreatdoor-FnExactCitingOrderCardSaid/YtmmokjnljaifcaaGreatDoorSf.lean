/-
  DERIVED: THE SHELF's CONTRACTS AT THIS DUMP, IN PLAIN WORDS (tools/lay-plain.mjs out of 'YtmmokjnljaifcaaGreatDoorSf0.lean', which tools/lay-shelf.mjs wrote): THE SAME DECLARATIONS UNDER THE SAME NAMES: 'import', 'namespace', 'open', 'def', 'theorem' AND NOTHING ELSE: no command of the shelf's: FOR A HAND-IN. Each laying: the table of numbers ('.._ren') and one theorem, a field a fact of the dump's own or the kernel's comparison; each contract: ONE APPLICATION.
-/
import Derived.Shelf.SlSortCmp.WholeK
import Derived.Test.YtmmokjnljaifcaaGreatDoorProg
namespace Go.Proofs
open Go.Shelf
def Tryz.sortSp_ren : Go.Shelf.Ren := ⟨fun | 6 => 311 | 15 => 348 | 14 => 347 | 28 => 378 | 29 => 379 | 20 => 370 | 21 => 371 | 22 => 372 | 23 => 373 | 24 => 374 | 25 => 375 | 26 => 376 | 27 => 377 | 46 => 392 | 47 => 393 | 48 => 394 | 49 => 395 | 50 => 396 | 57 => 399 | n => n, fun | 22 => 81 | 24 => 169 | 25 => 343 | 3 => 3 | 39 => 359 | 0 => 0 | 53 => 380 | 55 => 382 | 4 => 4 | 46 => 373 | 45 => 372 | 50 => 377 | 5 => 5 | 9 => 9 | 66 => 397 | 70 => 401 | 76 => 403 | 77 => 404 | n => n, fun | n => n⟩
theorem Tryz.sortSp : Go.Proofs.SlLaysF0.n6 Tryz.prog Tryz.sortSp_ren := {
  mixed := by kernel_rfl
  f6 := ⟨Tryz.f311.name, by decide, Tryz.func311.trans (congrArg some (by kernel_rfl))⟩
  f14 := ⟨Tryz.f347.name, by decide, Tryz.func347.trans (congrArg some (by kernel_rfl))⟩
  f15 := Tryz.func348.trans (congrArg some (by kernel_rfl))
  f20 := ⟨Tryz.f370.name, by decide, Tryz.func370.trans (congrArg some (by kernel_rfl))⟩
  f21 := ⟨Tryz.f371.name, by decide, Tryz.func371.trans (congrArg some (by kernel_rfl))⟩
  f22 := ⟨Tryz.f372.name, by decide, Tryz.func372.trans (congrArg some (by kernel_rfl))⟩
  f23 := ⟨Tryz.f373.name, by decide, Tryz.func373.trans (congrArg some (by kernel_rfl))⟩
  f24 := ⟨Tryz.f374.name, by decide, Tryz.func374.trans (congrArg some (by kernel_rfl))⟩
  f25 := ⟨Tryz.f375.name, by decide, Tryz.func375.trans (congrArg some (by kernel_rfl))⟩
  f26 := ⟨Tryz.f376.name, by decide, Tryz.func376.trans (congrArg some (by kernel_rfl))⟩
  f27 := ⟨Tryz.f377.name, by decide, Tryz.func377.trans (congrArg some (by kernel_rfl))⟩
  f28 := Tryz.func378.trans (congrArg some (by kernel_rfl))
  f29 := Tryz.func379.trans (congrArg some (by kernel_rfl))
  f46 := ⟨Tryz.f392.name, by decide, Tryz.func392.trans (congrArg some (by kernel_rfl))⟩
  f47 := Tryz.func393.trans (congrArg some (by kernel_rfl))
  f48 := Tryz.func394.trans (congrArg some (by kernel_rfl))
  f49 := ⟨Tryz.f395.name, by decide, Tryz.func395.trans (congrArg some (by kernel_rfl))⟩
  f50 := ⟨Tryz.f396.name, by decide, Tryz.func396.trans (congrArg some (by kernel_rfl))⟩
  f57 := ⟨Tryz.f399.name, by decide, Tryz.func399.trans (congrArg some (by kernel_rfl))⟩
  t0 := Tryz.underlying0
  a0 := Tryz.isAgg0
  z0 := Tryz.sizeOf0
  v0 := Tryz.zeroValue0
  t3 := Tryz.underlying3
  a3 := Tryz.isAgg3
  z3 := Tryz.sizeOf3
  v3 := Tryz.zeroValue3
  t4 := Tryz.underlying4
  a4 := Tryz.isAgg4
  z4 := Tryz.sizeOf4
  v4 := Tryz.zeroValue4
  t5 := Tryz.underlying5
  a5 := Tryz.isAgg5
  z5 := Tryz.sizeOf5
  v5 := Tryz.zeroValue5
  t9 := Tryz.underlying9
  a9 := Tryz.isAgg9
  z9 := Tryz.sizeOf9
  v9 := Tryz.zeroValue9
  t22 := Tryz.underlying81
  a22 := Tryz.isAgg81
  z22 := Tryz.sizeOf81
  v22 := Tryz.zeroValue81
  t25 := Tryz.underlying343
  a25 := Tryz.isAgg343
  z25 := Tryz.sizeOf343
  v25 := Tryz.zeroValue343
  t39 := Tryz.underlying359
  a39 := Tryz.isAgg359
  z39 := Tryz.sizeOf359
  v39 := Tryz.zeroValue359
  t45 := Tryz.underlying372
  a45 := Tryz.isAgg372
  z45 := Tryz.sizeOf372
  v45 := Tryz.zeroValue372
  t46 := Tryz.underlying373
  a46 := Tryz.isAgg373
  z46 := Tryz.sizeOf373
  v46 := Tryz.zeroValue373
  t50 := Tryz.underlying377
  a50 := Tryz.isAgg377
  z50 := Tryz.sizeOf377
  v50 := Tryz.zeroValue377
  t53 := Tryz.underlying380
  a53 := Tryz.isAgg380
  z53 := Tryz.sizeOf380
  v53 := Tryz.zeroValue380
  t55 := Tryz.underlying382
  a55 := Tryz.isAgg382
  z55 := Tryz.sizeOf382
  v55 := Tryz.zeroValue382
  t66 := Tryz.underlying397
  a66 := Tryz.isAgg397
  z66 := Tryz.sizeOf397
  v66 := Tryz.zeroValue397
  t70 := Tryz.underlying401
  a70 := Tryz.isAgg401
  z70 := Tryz.sizeOf401
  v70 := Tryz.zeroValue401
  t76 := Tryz.underlying403
  a76 := Tryz.isAgg403
  z76 := Tryz.sizeOf403
  v76 := Tryz.zeroValue403
  t77 := Tryz.underlying404
  a77 := Tryz.isAgg404
  z77 := Tryz.sizeOf404
  v77 := Tryz.zeroValue404 }
end Go.Proofs
