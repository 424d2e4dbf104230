/-
  Maps: delete; ranges over a map, in whatever order.
  Conditions: none.
-/
import Derived.Test.YtdebhhjbgbkbjaaD
import Derived.Maps.RangeRun
namespace Go.S
set_option linter.unusedVariables false
set_option linter.unusedSimpArgs false
/-- The next one of some, whichever: all must lead to one answer. -/
def nxt {α ρ : Type} [DecidableEq ρ] (l : List α) (A : Option ρ) (B : α → List α → Option ρ) : Option ρ := match l with
  | [] => A
  | p :: q => if (List.range (q.length + 1)).all (fun j => match (p :: q)[j]? with
      | some x => decide (B x ((p :: q).eraseIdx j) = B p q)
      | none => true) = true then B p q else none
section
variable {α ρ : Type} [DecidableEq ρ] {l : List α} {A : Option ρ} {B : α → List α → Option ρ} {r : ρ}
@[simp] theorem nxt_nil : nxt [] A B = A := rfl
/-- The same, of a map's entries. -/
def nxtM {α ρ : Type} [DecidableEq ρ] (l : List (Int × α)) (A : Option ρ) (B : Int → α → List (Int × α) → Option ρ) : Option ρ := nxt l A fun p q => B p.1 p.2 q
end
section
variable {P : Program} {Q : Exit → Act → World → Prop} {n : Nat} {fs : Fr} {C : World → Prop} {t : TypeId} {ops : Array Oper} {rest : List Oper} {d : Nat} {pos : String} {af : Array Edge}
variable {w0 : World} {own : List Nat} {m : List As} {x y z : Operand} {kt et tx : TypeId} {i b : Nat} {l left : List (Int × Value)} {a : Int} {v : Value}
/-! ### delete -/
def keyIs (a : Int) : Value → Bool
  | .int .i64 b => decide (b = a)
  | _ => false
/-! ### Ranges -/
section
variable {α ρ : Type} {g : α → Value} {lm left : List (Int × α)} [DecidableEq ρ] {A : Option ρ} {B : Int → α → List (Int × α) → Option ρ} {r : ρ} {rr : Nat}
end
end
/-! ### Elements of array values -/
section
variable {P : Program} {n : Nat} {fs : Fr} {C : World → Prop} {t : TypeId} {x y : Operand} {tx te : TypeId} {α : Type} {row : α → List Value} {l : List α} {k len : Nat} {ik : IntKind} {a : Int}
end
end Go.S
