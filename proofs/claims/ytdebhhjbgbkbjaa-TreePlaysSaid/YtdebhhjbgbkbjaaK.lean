/-
  Plain facts about the models' words: wraps, bits, bytes.
  Conditions: none.
-/
import Derived.Test.YtdebhhjbgbkbjaaI
namespace Go.S
theorem wrapU64 (x : Int) : IntKind.wrap .u64 x = x % 18446744073709551616 := by simp [IntKind.wrap, IntKind.signed, IntKind.bits]
theorem wrapI64 {x : Int} (h0 : -9223372036854775808 ≤ x) (h1 : x ≤ 9223372036854775807) : IntKind.wrap .i64 x = x := i64_in h0 h1
theorem shrW_u64 (a i : Nat) (hi : i ≤ 64) : shrW .u64 (a : Int) (i : Int) = some ((a / 2 ^ i : Nat) : Int) := by
  have hb : (0 : Int) ≤ (i : Int) ∧ (i : Int) ≤ (IntKind.bits .u64 : Int) := ⟨by omega, by simp [IntKind.bits]; omega⟩
  unfold shrW
  rw [if_pos hb, Int.toNat_natCast]; push_cast; rfl
theorem app_ok {α : Type} {a b : List α} (h : a.length + b.length ≤ 2513169434916) : app a b = some (a ++ b) := if_pos h
theorem cut_ok {α : Type} {l : List α} {a b : Int} (h0 : 0 ≤ a) (h1 : a ≤ b) (h2 : b ≤ l.length) : cut l a b = some ((l.take b.toNat).drop a.toNat) := if_pos ⟨h0, h1, h2⟩
theorem idx_ok {α : Type} {l : List α} {i : Nat} (h : i < l.length) : idx l (i : Int) = some l[i] := by rw [idx_nat, List.getElem?_eq_getElem h]
end Go.S
