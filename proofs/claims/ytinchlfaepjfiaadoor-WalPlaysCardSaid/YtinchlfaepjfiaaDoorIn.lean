/-
  Rows that are owned, written into in their midst: append onto one's own head, copy into a part, a row made longer within its room.
  Conditions: none.
-/
import Derived.Test.YtinchlfaepjfiaaDoorDp
import Derived.Lib.Overlaps
import Derived.Lib.AppendZerosOnto
namespace Go.S
set_option linter.unusedVariables false
set_option linter.unusedSimpArgs false
section
variable {P : Program} {Q : Exit → Act → World → Prop} {n : Nat} {C : World → Prop} {fs : Fr} {t : TypeId} {ops : Array Oper} {rest : List Oper} {d : Nat} {pos : String} {af : Array Edge}
variable {w0 w : World} {own : List Nat} {m : List As} {x y : Operand} {e te tx ty : TypeId} {i j k kk by' q s c g cap N a b : Nat} {v u V : Value} {rows more news : List (List Value)}
/-! ### Parts of a row whose value is known -/
abbrev rv (g N cap : Nat) : Value := .slice (some ⟨g, 0, none⟩) N cap
/-- The value of a row that is not empty. -/
theorem Cls.row (hw : Cls w0 own m w) (hm : m[i]? = some (.sl v e k rows)) (h0 : rows ≠ []) : ∃ g cap, v = rv g rows.length cap ∧ rows.length ≤ cap ∧ cap ≤ maxLen := by
  obtain ⟨_, _, hown⟩ := hw.get hm
  rcases hown with ⟨_, h⟩ | ⟨g, cap, cur, hv, _, _, hnc, hcm, _, _⟩
  · exact absurd (List.length_eq_zero_iff.1 h) h0
  · exact ⟨g, cap, hv, hnc, hcm⟩
end
end Go.S
