/-
  strings.Repeat at this program, by the contract of the shelf.
  Conditions: none.
-/
import Derived.Shelf.Strings.Repeat
import Derived.Ground.Names2Prog
import Derived.Test.YtjbajaofdgalfaaChecked
import Derived.Test.YtjbajaofdgalfaaD
namespace Go.Proofs
open Go.Shelf
def Try.lays105_ren : Go.Shelf.Ren := ⟨fun | 105 => 97 | 212 => 224 | 99 => 225 | 165 => 226 | 166 => 227 | 170 => 228 | 169 => 229 | 263 => 273 | 264 => 274 | 206 => 275 | 240 => 276 | 241 => 277 | 276 => 338 | 277 => 339 | n => n, fun | 9 => 9 | 3 => 3 | 4 => 4 | 20 => 20 | 0 => 0 | 46 => 178 | 109 => 299 | 5 => 5 | 72 => 305 | 76 => 308 | 51 => 348 | 146 => 349 | 53 => 351 | 148 => 352 | 70 => 302 | 37 => 303 | 75 => 307 | 127 => 354 | 164 => 393 | 80 => 310 | n => n, fun | n => n⟩
theorem Try.lays105 : Go.Proofs.Lays.n105 Try.prog Try.lays105_ren := {
  mixed := by kernel_rfl
  f99 := Try.func225.trans (congrArg some (by kernel_rfl))
  f105 := Try.func97.trans (congrArg some (by kernel_rfl))
  f165 := Try.func226.trans (congrArg some (by kernel_rfl))
  f166 := Try.func227.trans (congrArg some (by kernel_rfl))
  f169 := Try.func229.trans (congrArg some (by kernel_rfl))
  f170 := Try.func228.trans (congrArg some (by kernel_rfl))
  f206 := Try.func275.trans (congrArg some (by kernel_rfl))
  f212 := Try.func224.trans (congrArg some (by kernel_rfl))
  f240 := Try.func276.trans (congrArg some (by kernel_rfl))
  f241 := Try.func277.trans (congrArg some (by kernel_rfl))
  f263 := Try.func273.trans (congrArg some (by kernel_rfl))
  f264 := Try.func274.trans (congrArg some (by kernel_rfl))
  f276 := Try.func338.trans (congrArg some (by kernel_rfl))
  f277 := Try.func339.trans (congrArg some (by kernel_rfl))
  t0 := Try.underlying0
  a0 := Try.isAgg0
  z0 := Try.sizeOf0
  v0 := Try.zeroValue0
  t3 := Try.underlying3
  a3 := Try.isAgg3
  z3 := Try.sizeOf3
  v3 := Try.zeroValue3
  t4 := Try.underlying4
  a4 := Try.isAgg4
  z4 := Try.sizeOf4
  v4 := Try.zeroValue4
  t5 := Try.underlying5
  a5 := Try.isAgg5
  z5 := Try.sizeOf5
  v5 := Try.zeroValue5
  t9 := Try.underlying9
  a9 := Try.isAgg9
  z9 := Try.sizeOf9
  v9 := Try.zeroValue9
  t20 := Try.underlying20
  a20 := Try.isAgg20
  z20 := Try.sizeOf20
  v20 := Try.zeroValue20
  t37 := Try.underlying303
  a37 := Try.isAgg303
  z37 := Try.sizeOf303
  v37 := Try.zeroValue303
  t46 := Try.underlying178
  a46 := Try.isAgg178
  z46 := Try.sizeOf178
  v46 := Try.zeroValue178
  t51 := Try.underlying348
  a51 := Try.isAgg348
  z51 := Try.sizeOf348
  v51 := Try.zeroValue348
  t53 := Try.underlying351
  a53 := Try.isAgg351
  z53 := Try.sizeOf351
  v53 := Try.zeroValue351
  t70 := Try.underlying302
  a70 := Try.isAgg302
  z70 := Try.sizeOf302
  v70 := Try.zeroValue302
  t72 := Try.underlying305
  a72 := Try.isAgg305
  z72 := Try.sizeOf305
  v72 := Try.zeroValue305
  t75 := Try.underlying307
  a75 := Try.isAgg307
  z75 := Try.sizeOf307
  v75 := Try.zeroValue307
  t76 := Try.underlying308
  a76 := Try.isAgg308
  z76 := Try.sizeOf308
  v76 := Try.zeroValue308
  t109 := Try.underlying299
  a109 := Try.isAgg299
  z109 := Try.sizeOf299
  v109 := Try.zeroValue299
  t127 := Try.underlying354
  a127 := Try.isAgg354
  z127 := Try.sizeOf354
  v127 := Try.zeroValue354
  t146 := Try.underlying349
  a146 := Try.isAgg349
  z146 := Try.sizeOf349
  v146 := Try.zeroValue349
  t148 := Try.underlying352
  a148 := Try.isAgg352
  z148 := Try.sizeOf352
  v148 := Try.zeroValue352
  t164 := Try.underlying393
  a164 := Try.isAgg393
  z164 := Try.sizeOf393
  v164 := Try.zeroValue393 }
theorem Try.Builder_Extra_105 : Builder.Extra Try.prog Try.lays105_ren := {
  sizeBuilder := by kernel_rfl
  liesBuilder := by kernel_rfl
  t5 := Try.underlying5
  a5 := Try.isAgg5
  z5 := Try.sizeOf5
  v5 := Try.zeroValue5
  infoByte := by kernel_rfl
  cellsByte := by kernel_rfl
  sizeByte := by kernel_rfl
  neB5 := by decide }

open Go.RowKit Go.Lib in
theorem Try.strings_Repeat (s : ByteArray) (c : Nat) (w : World) (hc : c ≤ 9223372036854775807) (hlen : s.size * c ≤ 140737488355328) :
    Calls Try.prog 97 #[.string s, .int .i64 c] w fun e w' => e = .returned (.string ⟨(Lib.repeatL s.data.toList c).toArray⟩) ∧ Below w.heap.size w w' := Any.strings_Repeat Try.lays105 Try.Builder_Extra_105 s c w hc hlen

end Go.Proofs
namespace Go.Proofs.Ytjbajaofdgalfaa
open Go.S
theorem wRepeat (a0 : List UInt8) (a1 : Int) (w : World) (r : List UInt8) (h : xRepeat a0 a1 = some r) : Does Try.prog 97 [st a0, .int .i64 a1] w fun u m => u = st r ∧ m = [] := by
  obtain ⟨h0, h1, h2, rfl⟩ := xRepeat_some h
  obtain ⟨c, rfl⟩ := Int.eq_ofNat_of_zero_le h0
  refine Calls.mono (Try.strings_Repeat ⟨a0.toArray⟩ c w (by omega) (by rw [st_size]; simpa using h2)) ?_
  rintro e w' ⟨rfl, hb⟩
  exact ⟨_, [], rfl, ⟨by simp [st], rfl⟩, Cls.of_below hb⟩
end Go.Proofs.Ytjbajaofdgalfaa
