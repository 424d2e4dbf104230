/-
  Operations on arrays whose elements hold slices.
  Conditions: none.
-/
import Derived.Test.YtinchlfaepjfiaaDoorG
namespace Go.S
set_option linter.unusedVariables false
set_option linter.unusedSimpArgs false
def svRow {α : Type} (x : α) (vs : List Value) : List Value := [gv vs 0]
def svSd {α : Type} (e : TypeId) (k : Nat) (row : α → List Value) (x : List α) (vs : List Value) : List Sd := [⟨gv vs 0, e, k, x.map row⟩]
/-- A slice's elements from a place on, made zero. -/
def clr {α : Type} (l : List α) (a : Int) (z : α) : Option (List α) := if 0 ≤ a ∧ a ≤ l.length then some (l.take a.toNat ++ List.replicate (l.length - a.toNat) z) else none
theorem flat_len {k : Nat} : ∀ (rows : List (List Value)), (∀ r ∈ rows, r.length = k) → rows.flatten.length = rows.length * k
  | [], _ => by simp
  | r :: rows, h => by
    simp only [List.flatten_cons, List.length_append, List.length_cons, Nat.succ_mul]
    rw [flat_len rows (fun q hq => h q (by simp [hq])), h r (by simp)]
    omega
section
variable {P : Program} {Q : Exit → Act → World → Prop} {n : Nat} {fs : Fr} {t : TypeId} {ops : Array Oper} {rest : List Oper} {d : Nat} {pos : String} {af : Array Edge}
variable {w0 : World} {own : List Nat} {m : List As} {x y : Operand} {e te tx : TypeId} {q s p o i j k kk b c by' : Nat} {v u : Value} {vals : List Value}
section ghost
variable {α ρ : Type} {r : ρ} {row : α → List Value → List Value} {sds : α → List Value → List Sd} {vs : Nat → List Value} {l : List α} {a : Int} {u0 u1 : α} {f : List α → Option ρ}
theorem sds_lt (hc : ∀ z v, (sds z v).length = c) {dd : Sd} {z : α} {v : List Value} (hj : (sds z v)[j]? = some dd) : j < c := by
  have := (List.getElem?_eq_some_iff.1 hj).1
  rwa [hc] at this
end ghost
end
/-! ### '==' of arrays -/
section
variable {P : Program} {Q : Exit → Act → World → Prop} {n : Nat} {C : World → Prop} {fs : Fr} {t : TypeId} {ops : Array Oper} {rest : List Oper} {d : Nat} {pos : String} {af : Array Edge} {x y : Operand} {tx ty : TypeId}
variable {α : Type} {row : α → List Value} {l l' : List α} {k m : Nat} {e : TypeId}
end
end Go.S
