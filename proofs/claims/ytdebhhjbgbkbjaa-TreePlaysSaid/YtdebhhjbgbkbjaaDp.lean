/-
  Slices whose elements hold slices: owned, with a ghost; arrays of arrays, told flat.
  Conditions: none.
-/
import Derived.Test.YtdebhhjbgbkbjaaF
namespace Go.S
set_option linter.unusedVariables false
set_option linter.unusedSimpArgs false
def gapp (vs vs2 : Nat → List Value) (n : Nat) : Nat → List Value := fun q => if q < n then vs q else vs2 (q - n)
theorem gapp_0 (vs vs2 : Nat → List Value) : gapp vs vs2 0 = vs2 := by funext q; simp [gapp]
theorem gapp_s (vs vs2 : Nat → List Value) (n : Nat) : gapp vs vs2 (n + 1) 0 = vs 0 := by simp [gapp]
theorem gapp_ss (vs vs2 : Nat → List Value) (n : Nat) : (fun i => gapp vs vs2 (n + 1) (i + 1)) = gapp (fun i => vs (i + 1)) vs2 n := by
  funext i
  simp only [gapp]
  by_cases h : i < n
  · rw [if_pos (by omega), if_pos h]
  · rw [if_neg (by omega), if_neg h, show i + 1 - (n + 1) = i - n by omega]
section
variable {P : Program} {Q : Exit → Act → World → Prop} {n : Nat} {C : World → Prop} {fs : Fr} {t : TypeId} {ops : Array Oper} {rest : List Oper} {d : Nat} {pos : String} {af : Array Edge}
variable {w0 w : World} {own : List Nat} {m : List As} {x y : Operand} {e te tx ty : TypeId} {i j k kk by' p q s c jj : Nat} {v u V : Value} {o : Nat}
variable {α ρ : Type} {r : ρ} {row : α → List Value → List Value} {sds : α → List Value → List Sd} {vs vs2 : Nat → List Value} {l l2 : List α} {a : Int} {u0 u1 : α} {f : List α → Option ρ}
theorem set_self {β : Type} {m : List β} {i : Nat} {x : β} (h : m[i]? = some x) : m.set i x = m := by
  obtain ⟨h1, h2⟩ := List.getElem?_eq_some_iff.1 h
  rw [← h2, List.set_getElem_self]
/-! ### Slices gathered -/
/-! ### Arrays of arrays, told flat -/
def rng (n : Nat) (a : Int) : Option Unit := if 0 ≤ a ∧ a < n then some () else none
def idx2 {α : Type} (n : Nat) (l : List α) (a b : Int) : Option α := if 0 ≤ a ∧ 0 ≤ b ∧ b < n then idx l (a * n + b) else none
end
end Go.S
