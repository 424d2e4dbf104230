/-
  Words of the models in plain laws: counters, tables.
  Conditions: none.
-/
import Derived.Test.YtinchlfaepjfiaaDoorQ
namespace Go.S
set_option linter.unusedVariables false
set_option linter.unusedSimpArgs false
theorem dec (n : Nat) (h : 0 < n) : ∃ q, n = q + 1 := ⟨n - 1, by omega⟩
theorem isucc (i : Nat) (h : i < 9223372036854775807) : i64 ((i : Int) + 1) = some ((i + 1 : Nat) : Int) := by rw [i64_ok (by omega) (by omega)]; rfl
theorem ff : ¬ (false = true) := by simp
theorem lt_big {n : Nat} (h : n ≤ 1180591620717411303423) : n < big := by rw [big_eq]; omega
theorem drop_cons {α : Type} {l : List α} {i : Nat} (hi : i < l.length) : l.drop i = l[i] :: l.drop (i + 1) := List.drop_eq_getElem_cons hi
/-- A table of n. -/
def tab {α : Type} (n : Nat) (f : Int → α) : List α := (List.range n).map fun i : Nat => f (i : Int)
end Go.S
