/-
  Slices that begin within their block: cut at the front, and appended to.
  Conditions: none.
-/
import Derived.Test.YtinchlfaepjfiaaDoorFp
namespace Go.S
set_option linter.unusedVariables false
set_option linter.unusedSimpArgs false
section
variable {v v' : Value} {e : TypeId} {k : Nat} {rows rows' more : List (List Value)} {w0 w w' : World} {own : List Nat} {m : List As} {i : Nat}
theorem tlHolds.drop (h : tlHolds w v e k rows) (l : Nat) (hl : l ≤ rows.length) : tlHolds w (dropv v l k) e k (rows.drop l) := by
  obtain ⟨h1, h3⟩ := h
  refine ⟨fun r hr => h1 r (List.mem_of_mem_drop hr), ?_⟩
  rcases h3 with ⟨rfl, rfl⟩ | ⟨g, off, cap, cur, rfl, hg, hn, hc, hs, ht⟩
  · exact .inl ⟨by simp [dropv], by simp⟩
  · by_cases hz : cap - l = 0
    · have hl2 : rows.length - l = 0 := by omega
      refine .inr ⟨g, off, 0, cur, by simp [dropv, hz], hg, by simp; omega, by simp [maxLen], by omega, ?_⟩
      rw [List.length_drop, hl2]
      simp [List.drop_eq_nil_of_le (show rows.length ≤ l by omega)]
    · refine .inr ⟨g, off + l * k, cap - l, cur, by simp [dropv, hz, Addr.add_lit], hg, by simp; omega, by omega, ?_, ?_⟩
      · have : cap * k = l * k + (cap - l) * k := by rw [← Nat.add_mul]; congr 1; omega
        omega
      · rw [List.length_drop]
        have e1 : (rows.drop l).flatten = rows.flatten.drop (l * k) := by
          have h4 : rows.flatten = (rows.take l).flatten ++ (rows.drop l).flatten := by rw [← List.flatten_append, List.take_append_drop]
          have h5 : (rows.take l).flatten.length = l * k := by
            rw [flat_len _ (fun r hr => h1 r (List.mem_of_mem_take hr)), List.length_take, Nat.min_eq_left hl]
          rw [h4, ← h5, List.drop_left]
        rw [e1, ← ht, List.drop_take, List.drop_drop, Nat.sub_mul]
end
section
variable {P : Program} {v v' : Value} {e : TypeId} {k : Nat} {rows rows' more : List (List Value)} {w : World}
end
section
variable {P : Program} {Q : Exit → Act → World → Prop} {n : Nat} {fs : Fr} {t : TypeId} {ops : Array Oper} {rest : List Oper} {d : Nat} {pos : String} {af : Array Edge}
variable {w0 : World} {own : List Nat} {m : List As} {x y : Operand} {e tx : TypeId} {i k by' : Nat} {v u : Value}
end
end Go.S
