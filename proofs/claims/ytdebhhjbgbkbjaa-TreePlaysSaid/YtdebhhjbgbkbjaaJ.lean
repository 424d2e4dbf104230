/-
  Words of the models in plain laws: counters, tables.
  Conditions: none.
-/
import Derived.Test.YtdebhhjbgbkbjaaQ
namespace Go.S
set_option linter.unusedVariables false
set_option linter.unusedSimpArgs false
theorem dec (n : Nat) (h : 0 < n) : ∃ q, n = q + 1 := ⟨n - 1, by omega⟩
theorem isucc (i : Nat) (h : i < 9223372036854775807) : i64 ((i : Int) + 1) = some ((i + 1 : Nat) : Int) := by rw [i64_ok (by omega) (by omega)]; rfl
theorem cut_drop {α : Type} (l : List α) (i : Nat) (h : i ≤ l.length) : cut l (i : Int) (l.length : Int) = some (l.drop i) := by
  rw [cut_ok (by omega) (by omega) (by omega)]
  simp
theorem cut_take {α : Type} (l : List α) (i : Nat) (h : i ≤ l.length) : cut l 0 (i : Int) = some (l.take i) := by
  rw [cut_ok (by omega) (by omega) (by omega)]
  simp
/-- A table of n. -/
def tab {α : Type} (n : Nat) (f : Int → α) : List α := (List.range n).map fun i : Nat => f (i : Int)
end Go.S
