/-
  slices.Delete, slices.Insert at elements of some cells that are owned, by their walks; a literal of two slices; zeros behind nil.
  Conditions: none.
-/
import Derived.Test.YtinchlfaepjfiaaDoorIn
namespace Go.S
set_option linter.unusedVariables false
set_option linter.unusedSimpArgs false
def xDelR {α : Type} (l : List α) (a b : Int) : Option (List α) := if 0 ≤ a ∧ a < b ∧ b ≤ l.length ∧ l.length ≤ 1000000000 then some (l.take a.toNat ++ l.drop b.toNat) else none
def xInsR {α : Type} (l : List α) (a : Int) (x : α) : Option (List α) := if 0 ≤ a ∧ a ≤ l.length ∧ l.length ≤ 1000000000 then some (l.take a.toNat ++ [x] ++ l.drop a.toNat) else none
def DelR {α : Type} (P : Program) (f : FuncId) (e : TypeId) (k : Nat) (row : α → List Value) : Prop :=
  ∀ (l : List α) (g cap a b : Nat) (w : World), a < b → b ≤ l.length → l.length ≤ cap → l.length ≤ 1000000000 → Cls w [g] [.sl (rv g l.length cap) e k (l.map row)] w →
    Calls P f [rv g l.length cap, .int .i64 (a : Nat), .int .i64 (b : Nat)].toArray w fun en w' => ∃ v', en = .returned v' ∧ Cls w [g] [.sl v' e k ((l.take a ++ l.drop b).map row)] w'
structure InsR {α : Type} (P : Program) (f : FuncId) (e : TypeId) (k : Nat) (row : α → List Value) : Prop where
  fin : ∀ (l : List α) (x : α) (g cap a : Nat) (v : Value) (w : World) (b : Nat), w.heap[b]? = some (.cells (row x).toArray e (0, 0)) → b ≠ g → a = l.length → l.length ≤ 1000000000 → Cls w [g] [.sl v e k (l.map row)] w →
    Calls P f [v, .int .i64 (a : Nat), sv b 1].toArray w fun en w' => ∃ v', en = .returned v' ∧ Cls w [g] [.sl v' e k ((l.take a ++ [x] ++ l.drop a).map row)] w'
  mid : ∀ (l : List α) (x : α) (g cap a : Nat) (v : Value) (w : World) (b : Nat), w.heap[b]? = some (.cells (row x).toArray e (0, 0)) → b ≠ g → a < l.length → l.length ≤ cap → l.length ≤ 1000000000 → Cls w [g] [.sl (rv g l.length cap) e k (l.map row)] w →
    Calls P f [rv g l.length cap, .int .i64 (a : Nat), sv b 1].toArray w fun en w' => ∃ v', en = .returned v' ∧ Cls w [g] [.sl v' e k ((l.take a ++ [x] ++ l.drop a).map row)] w'
section
variable {P : Program} {Q : Exit → Act → World → Prop} {n : Nat} {C : World → Prop} {fs : Fr} {t : TypeId} {ops : Array Oper} {rest : List Oper} {d : Nat} {pos : String} {af : Array Edge}
variable {w0 w w' : World} {own : List Nat} {m : List As} {x y z : Operand} {e tx : TypeId} {i j k by' g N cap : Nat} {v u v' : Value} {rows rows' : List (List Value)} {f : FuncId} {ts : Array TypeId}
/-- Two slices side by side. -/
def lit2 (v1 v2 : Value) : Nat → List Value
  | 0 => [v1]
  | _ => [v2]
end
end Go.S
