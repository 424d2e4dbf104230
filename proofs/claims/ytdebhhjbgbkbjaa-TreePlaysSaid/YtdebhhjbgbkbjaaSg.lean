/-
  Objects in segments: struct variables with arrays in them.
  Conditions: none.
-/
import Derived.Test.YtdebhhjbgbkbjaaDp
namespace Go.S
set_option linter.unusedVariables false
set_option linter.unusedSimpArgs false
section
variable {P : Program} {Q : Exit → Act → World → Prop} {n : Nat} {C : World → Prop} {fs : Fr} {t : TypeId} {ops : Array Oper} {rest : List Oper} {d : Nat} {pos : String} {af : Array Edge}
variable {w0 w : World} {own : List Nat} {m : List As} {x y : Operand} {e te tx ty : TypeId} {i j k kk by' p q s c jj b si ps nn : Nat} {v u : Value} {o : Nat} {vals X : List Value} {S : List (List Value)}
variable {α ρ : Type} {r : ρ} {row : α → List Value → List Value} {sds : α → List Value → List Sd} {vs : Nat → List Value} {l : List α} {a : Int} {u0 u1 : α} {f : List α → Option ρ}
end
end Go.S
