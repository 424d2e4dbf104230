/-
  slices.Sort of ints at this program, by the contract of the shelf.
  Conditions: none.
-/
import Derived.Shelf.Sort.Plain
import Derived.Shelf.Slices.In.SortNone
import Derived.Ground.Names2Prog
import Derived.Test.YtjbajaofdgalfaaChecked
import Derived.Test.YtjbajaofdgalfaaX
namespace Go.Proofs
open Go.Shelf
def Try.lays189_ren : Go.Shelf.Ren := ⟨fun | 189 => 152 | 125 => 251 | 257 => 250 | 128 => 299 | 129 => 300 | 294 => 291 | 295 => 292 | 296 => 293 | 297 => 294 | 298 => 295 | 299 => 296 | 216 => 107 | 300 => 297 | 301 => 298 | 328 => 345 | 329 => 346 | 330 => 347 | 331 => 348 | 332 => 349 | 215 => 232 | 343 => 373 | n => n, fun | 28 => 36 | 3 => 3 | 46 => 178 | 0 => 0 | 51 => 348 | 53 => 351 | 4 => 4 | 183 => 363 | 182 => 362 | 131 => 48 | 5 => 5 | 9 => 9 | 218 => 399 | 222 => 403 | 228 => 421 | 229 => 422 | n => n, fun | n => n⟩
theorem Try.lays189 : Go.Proofs.Lays.n189 Try.prog Try.lays189_ren := {
  mixed := by kernel_rfl
  f125 := Try.func251.trans (congrArg some (by kernel_rfl))
  f128 := Try.func299.trans (congrArg some (by kernel_rfl))
  f129 := Try.func300.trans (congrArg some (by kernel_rfl))
  f189 := Try.func152.trans (congrArg some (by kernel_rfl))
  f215 := Try.func232.trans (congrArg some (by kernel_rfl))
  f216 := Try.func107.trans (congrArg some (by kernel_rfl))
  f257 := Try.func250.trans (congrArg some (by kernel_rfl))
  f294 := Try.func291.trans (congrArg some (by kernel_rfl))
  f295 := Try.func292.trans (congrArg some (by kernel_rfl))
  f296 := Try.func293.trans (congrArg some (by kernel_rfl))
  f297 := Try.func294.trans (congrArg some (by kernel_rfl))
  f298 := Try.func295.trans (congrArg some (by kernel_rfl))
  f299 := Try.func296.trans (congrArg some (by kernel_rfl))
  f300 := Try.func297.trans (congrArg some (by kernel_rfl))
  f301 := Try.func298.trans (congrArg some (by kernel_rfl))
  f328 := Try.func345.trans (congrArg some (by kernel_rfl))
  f329 := Try.func346.trans (congrArg some (by kernel_rfl))
  f330 := Try.func347.trans (congrArg some (by kernel_rfl))
  f331 := Try.func348.trans (congrArg some (by kernel_rfl))
  f332 := Try.func349.trans (congrArg some (by kernel_rfl))
  f343 := Try.func373.trans (congrArg some (by kernel_rfl))
  t0 := Try.underlying0
  a0 := Try.isAgg0
  z0 := Try.sizeOf0
  v0 := Try.zeroValue0
  t3 := Try.underlying3
  a3 := Try.isAgg3
  z3 := Try.sizeOf3
  v3 := Try.zeroValue3
  t4 := Try.underlying4
  a4 := Try.isAgg4
  z4 := Try.sizeOf4
  v4 := Try.zeroValue4
  t5 := Try.underlying5
  a5 := Try.isAgg5
  z5 := Try.sizeOf5
  v5 := Try.zeroValue5
  t9 := Try.underlying9
  a9 := Try.isAgg9
  z9 := Try.sizeOf9
  v9 := Try.zeroValue9
  t28 := Try.underlying36
  a28 := Try.isAgg36
  z28 := Try.sizeOf36
  v28 := Try.zeroValue36
  t46 := Try.underlying178
  a46 := Try.isAgg178
  z46 := Try.sizeOf178
  v46 := Try.zeroValue178
  t51 := Try.underlying348
  a51 := Try.isAgg348
  z51 := Try.sizeOf348
  v51 := Try.zeroValue348
  t53 := Try.underlying351
  a53 := Try.isAgg351
  z53 := Try.sizeOf351
  v53 := Try.zeroValue351
  t131 := Try.underlying48
  a131 := Try.isAgg48
  z131 := Try.sizeOf48
  v131 := Try.zeroValue48
  t182 := Try.underlying362
  a182 := Try.isAgg362
  z182 := Try.sizeOf362
  v182 := Try.zeroValue362
  t183 := Try.underlying363
  a183 := Try.isAgg363
  z183 := Try.sizeOf363
  v183 := Try.zeroValue363
  t218 := Try.underlying399
  a218 := Try.isAgg399
  z218 := Try.sizeOf399
  v218 := Try.zeroValue399
  t222 := Try.underlying403
  a222 := Try.isAgg403
  z222 := Try.sizeOf403
  v222 := Try.zeroValue403
  t228 := Try.underlying421
  a228 := Try.isAgg421
  z228 := Try.sizeOf421
  v228 := Try.zeroValue421
  t229 := Try.underlying422
  a229 := Try.isAgg422
  z229 := Try.sizeOf422
  v229 := Try.zeroValue422 }
open Go.Sort Go.RowKit in
theorem Try.slices_Sort_int (blk off cap : Nat) (zs : List Int) (w : World) (hH : Holds (Value.int .i64) w blk off zs.toArray) (hblk : blk < w.heap.size) (hsz : zs.length < 4611686018427387904) :
    Calls Try.prog 152 #[.slice (some ⟨blk, off, none⟩) zs.length cap] w fun e w' =>
      e = .returned (.tuple #[]) ∧ ∃ n os, w' = grow (putRow (Value.int .i64) (Sort.ahead w n) blk off (zs.mergeSort fun x y => decide (x ≤ y)).toArray) os := Any.slices_Sort_int Try.lays189 blk off cap zs w hH hblk hsz
open Go.RowKit Go.Sort in
/-- .. and plain. (LAID: no walk: one application.) -/
theorem Try.slices_Sort_int_none (p : Option Addr) (cap : Nat) (w : World) :
    Calls Try.prog 152 #[.slice p 0 cap] w fun e w' => e = .returned (.tuple #[]) ∧ w' = w := Any.slices_Sort_int_none Try.lays189 p cap w
end Go.Proofs
namespace Go.Proofs.Ytjbajaofdgalfaa
open Go.S
theorem wSort : SortC Try.prog 152 := ⟨Try.slices_Sort_int, Try.slices_Sort_int_none⟩
end Go.Proofs.Ytjbajaofdgalfaa
