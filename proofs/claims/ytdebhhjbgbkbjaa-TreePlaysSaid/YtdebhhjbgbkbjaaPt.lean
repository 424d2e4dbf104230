/-
  Slices of pointers, each to a block of its own.
  Conditions: none.
-/
import Derived.Test.YtdebhhjbgbkbjaaDl
namespace Go.S
set_option linter.unusedVariables false
set_option linter.unusedSimpArgs false
section lists
variable {α : Type} {row : α → List Value} {e : TypeId}
/-- The pointers' rows; the blocks behind them. -/
def zp (g : Nat → Nat) : List α → List (List Value)
  | [] => []
  | _ :: l => [pt (g 0) 0] :: zp (fun i => g (i + 1)) l
def zo (row : α → List Value) (e : TypeId) (g : Nat → Nat) : List α → List Ob
  | [] => []
  | x :: l => ⟨g 0, row x, e⟩ :: zo row e (fun i => g (i + 1)) l
def gput (g : Nat → Nat) (n b : Nat) : Nat → Nat := fun q => if q < n then g q else b
theorem gput_0 (g : Nat → Nat) (b : Nat) : gput g 0 b = fun _ => b := by funext q; simp [gput]
theorem gput_s (g : Nat → Nat) (n b : Nat) : gput g (n + 1) b 0 = g 0 := by simp [gput]
theorem gput_ss (g : Nat → Nat) (n b : Nat) : (fun i => gput g (n + 1) b (i + 1)) = gput (fun i => g (i + 1)) n b := by
  funext i
  simp only [gput]
  by_cases h : i < n
  · rw [if_pos (by omega), if_pos h]
  · rw [if_neg (by omega), if_neg h]
end lists
section
variable {P : Program} {Q : Exit → Act → World → Prop} {n : Nat} {C : World → Prop} {fs : Fr} {t : TypeId} {ops : Array Oper} {rest : List Oper} {d : Nat} {pos : String} {af : Array Edge}
variable {w0 w : World} {own : List Nat} {m : List As} {x y : Operand} {e te tx ty : TypeId} {i j k kk by' p q s c : Nat} {v u V : Value} {o b : Nat}
variable {α ρ : Type} {r : ρ} {row : α → List Value} {g : Nat → Nat} {l : List α} {a : Int} {u0 u1 : α} {f : List α → Option ρ}
/-! Maps whose elements are functions; a call of such an element. -/
def VF (x : Int) : Value := .func (.func x.toNat) #[] #[]
end
end Go.S
