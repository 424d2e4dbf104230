/-
  Maps with keys that are structs.
  Conditions: none.
-/
import Derived.Test.YtdebhhjbgbkbjaaU
import Derived.Test.YtdebhhjbgbkbjaaE
namespace Go.S
set_option linter.unusedVariables false
set_option linter.unusedSimpArgs false
/-! ### Words -/
def kget {κ α : Type} [DecidableEq κ] (l : List (κ × α)) (k : κ) (z : α) : α := match l.find? (fun p => decide (p.1 = k)) with
  | some p => p.2
  | none => z
def khas {κ α : Type} [DecidableEq κ] (l : List (κ × α)) (k : κ) : Bool := l.any fun p => decide (p.1 = k)
def kset {κ α : Type} [DecidableEq κ] (l : List (κ × α)) (k : κ) (v : α) : List (κ × α) := if khas l k = true then l.map (fun p => if p.1 = k then (k, v) else p) else l ++ [(k, v)]
def krow {κ α : Type} (K : κ → Value) (g : α → Value) (l : List (κ × α)) : List (Value × Value) := l.map fun p => (K p.1, g p.2)
def nxtK {κ α ρ : Type} [DecidableEq ρ] (l : List (κ × α)) (A : Option ρ) (B : κ → α → List (κ × α) → Option ρ) : Option ρ := nxt l A fun p q => B p.1 p.2 q
section
variable {κ α : Type} [DecidableEq κ] {l : List (κ × α)} {k a : κ} {v z : α}
end
/-! ### Keys -/
/-- What a type of keys must be: a struct of numbers. -/
structure KeyT (P : Program) (kt : TypeId) {κ : Type} (row : κ → List Value) : Prop where
  un : ∃ fs, P.underlying kt = some (.struct fs)
  ag : aggB P kt true = true
  sh : ∀ x, shB P 5 kt (row x) = true
  inj : ∀ x y, row x = row y → x = y
  chk : ∀ x (e : Bool) (w : World), (Instr.checkKey e 10000 kt (VA row x)).run P w = .ok () w
  ints : ∀ x, ∀ v ∈ row x, ∃ k a, v = .int k a
section
variable {P : Program} {κ : Type} {row : κ → List Value} {kt : TypeId}
variable [DecidableEq κ]
end
section
variable {P : Program} {Q : Exit → Act → World → Prop} {n : Nat} {fs : Fr} {C : World → Prop} {t : TypeId} {ops : Array Oper} {rest : List Oper} {d : Nat} {pos : String} {af : Array Edge}
variable {w0 : World} {own : List Nat} {m : List As} {x y z : Operand} {kt et tx : TypeId} {i b : Nat} {l left : List (Value × Value)}
/-- A map that is owned, ranged over or not. -/
structure Mpq (w : World) (b : Nat) (l : List (Value × Value)) (es : Array MapEntry) (clock : Nat) : Prop where
  here : w.heap[b]? = some (.map es clock)
  st : MapKept.Stamped es clock
  kv : es.toList.map (fun e => (e.key, e.val)) = l
def mqOf : As → Option (Nat × List (Value × Value))
  | .mq b l => some (b, l)
  | .mqi b _ l _ _ => some (b, l)
  | _ => none
section gen
variable {κ : Type} {row : κ → List Value} {α : Type} {g : α → Value} {lm : List (κ × α)} {z0 v0 : α} {a : κ}
variable [DecidableEq κ]
end gen
section
variable {κ α ρ : Type} {K : κ → Value} {g : α → Value} {lm left : List (κ × α)} [DecidableEq ρ] {A : Option ρ} {B : κ → α → List (κ × α) → Option ρ} {r : ρ} {rr : Nat}
end
end
end Go.S
