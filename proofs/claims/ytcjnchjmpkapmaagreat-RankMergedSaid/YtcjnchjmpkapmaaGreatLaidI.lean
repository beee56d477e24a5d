/-
  DERIVED: THE SHELF's CONTRACTS AT THIS DUMP, IN PLAIN WORDS (tools/lay-plain.mjs out of 'TryzLaidI.lean', which tools/lay-shelf.mjs wrote): THE SAME DECLARATIONS UNDER THE SAME NAMES: 'import', 'namespace', 'open', 'def', 'theorem' AND NOTHING ELSE: no command of the shelf's: FOR A HAND-IN. Each laying: the table of numbers ('.._ren') and one theorem, a field a fact of the dump's own or the kernel's comparison; each contract: ONE APPLICATION.
-/
import Derived.Shelf.SlGeneric
import Derived.Ground.GgzProg
import Derived.Shelf.SlIterI.Nil
import Derived.Test.YtcjnchjmpkapmaaGreatProg
namespace Go.Proofs
open Go.Shelf
def Tryz.keysI_ren : Go.Shelf.Ren := ⟨fun | 7 => 228 | 10 => 292 | n => n, fun | 23 => 278 | 26 => 3 | 3 => 3 | 28 => 225 | 0 => 0 | 27 => 224 | 33 => 195 | 4 => 4 | n => n, fun | n => n⟩
theorem Tryz.keysI : Go.Proofs.SlLaysZI.n7 Tryz.prog Tryz.keysI_ren := {
  mixed := by kernel_rfl
  f7 := ⟨Tryz.f228.name, by decide, Tryz.func228.trans (congrArg some (by kernel_rfl))⟩
  f10 := ⟨Tryz.f292.name, by decide, Tryz.func292.trans (congrArg some (by kernel_rfl))⟩
  t0 := Tryz.underlying0
  a0 := Tryz.isAgg0
  z0 := Tryz.sizeOf0
  v0 := Tryz.zeroValue0
  t4 := Tryz.underlying4
  a4 := Tryz.isAgg4
  z4 := Tryz.sizeOf4
  v4 := Tryz.zeroValue4
  t23 := Tryz.underlying278
  a23 := Tryz.isAgg278
  z23 := Tryz.sizeOf278
  v23 := Tryz.zeroValue278
  t26 := Tryz.underlying3
  a26 := Tryz.isAgg3
  z26 := Tryz.sizeOf3
  v26 := Tryz.zeroValue3
  t27 := Tryz.underlying224
  a27 := Tryz.isAgg224
  z27 := Tryz.sizeOf224
  v27 := Tryz.zeroValue224
  t28 := Tryz.underlying225
  a28 := Tryz.isAgg225
  z28 := Tryz.sizeOf225
  v28 := Tryz.zeroValue225
  t33 := Tryz.underlying195
  a33 := Tryz.isAgg195
  z33 := Tryz.sizeOf195
  v33 := Tryz.zeroValue195 }
def Tryz.sortedI_ren : Go.Shelf.Ren := ⟨fun | 6 => 227 | 8 => 291 | 9 => 232 | 11 => 347 | 13 => 276 | 12 => 296 | 23 => 332 | 24 => 323 | 14 => 349 | 15 => 350 | 16 => 351 | 17 => 352 | 18 => 353 | 19 => 354 | 20 => 355 | 21 => 356 | 22 => 357 | 25 => 377 | 26 => 370 | 27 => 371 | 28 => 378 | 29 => 379 | 30 => 285 | 31 => 385 | n => n, fun | 26 => 3 | 28 => 225 | 24 => 49 | 0 => 0 | 3 => 3 | 37 => 313 | 48 => 353 | 50 => 128 | 4 => 4 | 40 => 347 | 39 => 346 | 45 => 124 | 5 => 5 | 9 => 9 | 51 => 376 | 55 => 380 | 57 => 390 | 58 => 77 | 33 => 195 | n => n, fun | n => n⟩
theorem Tryz.sortedI : Go.Proofs.SlLaysZI.n6 Tryz.prog Tryz.sortedI_ren := {
  mixed := by kernel_rfl
  f6 := ⟨Tryz.f227.name, by decide, Tryz.func227.trans (congrArg some (by kernel_rfl))⟩
  f8 := ⟨Tryz.f291.name, by decide, Tryz.func291.trans (congrArg some (by kernel_rfl))⟩
  f11 := ⟨Tryz.f347.name, by decide, Tryz.func347.trans (congrArg some (by kernel_rfl))⟩
  t0 := Tryz.underlying0
  a0 := Tryz.isAgg0
  z0 := Tryz.sizeOf0
  v0 := Tryz.zeroValue0
  t24 := Tryz.underlying49
  a24 := Tryz.isAgg49
  z24 := Tryz.sizeOf49
  v24 := Tryz.zeroValue49
  t26 := Tryz.underlying3
  a26 := Tryz.isAgg3
  z26 := Tryz.sizeOf3
  v26 := Tryz.zeroValue3
  t28 := Tryz.underlying225
  a28 := Tryz.isAgg225
  z28 := Tryz.sizeOf225
  v28 := Tryz.zeroValue225
  i26 := by kernel_rfl }
end Go.Proofs
