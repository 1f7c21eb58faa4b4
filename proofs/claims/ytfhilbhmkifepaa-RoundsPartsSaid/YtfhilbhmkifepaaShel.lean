/- The shelf's contract of slices.SortFunc laid at this program, in plain words (written by the kit's tool lay-plain.mjs); no condition. -/
import Derived.Test.YtfhilbhmkifepaaProg
import Derived.Shelf.SlSortCmp.NoneTotal
import Derived.Shelf.SlGeneric
import Derived.Ground.SlsfProg
namespace Go.Proofs
open Go.Shelf
def Try.sortSlot_ren : Go.Shelf.Ren := ⟨fun | 6 => 232 | 15 => 250 | 14 => 265 | 28 => 278 | 29 => 279 | 20 => 285 | 21 => 286 | 22 => 287 | 23 => 288 | 24 => 289 | 25 => 290 | 26 => 291 | 27 => 292 | 46 => 301 | 47 => 296 | 48 => 297 | 49 => 302 | 50 => 303 | 57 => 306 | n => n, fun | 22 => 151 | 24 => 153 | 25 => 252 | 3 => 3 | 39 => 336 | 0 => 0 | 53 => 99 | 55 => 315 | 4 => 4 | 46 => 365 | 45 => 364 | 50 => 71 | 5 => 5 | 9 => 9 | 66 => 381 | 70 => 385 | 76 => 389 | 77 => 390 | n => n, fun | n => n⟩
theorem Try.sortSlot : Go.Proofs.SlLaysF0.n6 Try.prog Try.sortSlot_ren := {
  mixed := by kernel_rfl
  f6 := ⟨Try.f232.name, by decide, Try.func232.trans (congrArg some (by kernel_rfl))⟩
  f14 := ⟨Try.f265.name, by decide, Try.func265.trans (congrArg some (by kernel_rfl))⟩
  f15 := Try.func250.trans (congrArg some (by kernel_rfl))
  f20 := ⟨Try.f285.name, by decide, Try.func285.trans (congrArg some (by kernel_rfl))⟩
  f21 := ⟨Try.f286.name, by decide, Try.func286.trans (congrArg some (by kernel_rfl))⟩
  f22 := ⟨Try.f287.name, by decide, Try.func287.trans (congrArg some (by kernel_rfl))⟩
  f23 := ⟨Try.f288.name, by decide, Try.func288.trans (congrArg some (by kernel_rfl))⟩
  f24 := ⟨Try.f289.name, by decide, Try.func289.trans (congrArg some (by kernel_rfl))⟩
  f25 := ⟨Try.f290.name, by decide, Try.func290.trans (congrArg some (by kernel_rfl))⟩
  f26 := ⟨Try.f291.name, by decide, Try.func291.trans (congrArg some (by kernel_rfl))⟩
  f27 := ⟨Try.f292.name, by decide, Try.func292.trans (congrArg some (by kernel_rfl))⟩
  f28 := Try.func278.trans (congrArg some (by kernel_rfl))
  f29 := Try.func279.trans (congrArg some (by kernel_rfl))
  f46 := ⟨Try.f301.name, by decide, Try.func301.trans (congrArg some (by kernel_rfl))⟩
  f47 := Try.func296.trans (congrArg some (by kernel_rfl))
  f48 := Try.func297.trans (congrArg some (by kernel_rfl))
  f49 := ⟨Try.f302.name, by decide, Try.func302.trans (congrArg some (by kernel_rfl))⟩
  f50 := ⟨Try.f303.name, by decide, Try.func303.trans (congrArg some (by kernel_rfl))⟩
  f57 := ⟨Try.f306.name, by decide, Try.func306.trans (congrArg some (by kernel_rfl))⟩
  t0 := Try.underlying0
  a0 := Try.isAgg0
  z0 := Try.sizeOf0
  v0 := Try.zeroValue0
  t3 := Try.underlying3
  a3 := Try.isAgg3
  z3 := Try.sizeOf3
  v3 := Try.zeroValue3
  t4 := Try.underlying4
  a4 := Try.isAgg4
  z4 := Try.sizeOf4
  v4 := Try.zeroValue4
  t5 := Try.underlying5
  a5 := Try.isAgg5
  z5 := Try.sizeOf5
  v5 := Try.zeroValue5
  t9 := Try.underlying9
  a9 := Try.isAgg9
  z9 := Try.sizeOf9
  v9 := Try.zeroValue9
  t22 := Try.underlying151
  a22 := Try.isAgg151
  z22 := Try.sizeOf151
  v22 := Try.zeroValue151
  t25 := Try.underlying252
  a25 := Try.isAgg252
  z25 := Try.sizeOf252
  v25 := Try.zeroValue252
  t39 := Try.underlying336
  a39 := Try.isAgg336
  z39 := Try.sizeOf336
  v39 := Try.zeroValue336
  t45 := Try.underlying364
  a45 := Try.isAgg364
  z45 := Try.sizeOf364
  v45 := Try.zeroValue364
  t46 := Try.underlying365
  a46 := Try.isAgg365
  z46 := Try.sizeOf365
  v46 := Try.zeroValue365
  t50 := Try.underlying71
  a50 := Try.isAgg71
  z50 := Try.sizeOf71
  v50 := Try.zeroValue71
  t53 := Try.underlying99
  a53 := Try.isAgg99
  z53 := Try.sizeOf99
  v53 := Try.zeroValue99
  t55 := Try.underlying315
  a55 := Try.isAgg315
  z55 := Try.sizeOf315
  v55 := Try.zeroValue315
  t66 := Try.underlying381
  a66 := Try.isAgg381
  z66 := Try.sizeOf381
  v66 := Try.zeroValue381
  t70 := Try.underlying385
  a70 := Try.isAgg385
  z70 := Try.sizeOf385
  v70 := Try.zeroValue385
  t76 := Try.underlying389
  a76 := Try.isAgg389
  z76 := Try.sizeOf389
  v76 := Try.zeroValue389
  t77 := Try.underlying390
  a77 := Try.isAgg390
  z77 := Try.sizeOf390
  v77 := Try.zeroValue390 }
end Go.Proofs
