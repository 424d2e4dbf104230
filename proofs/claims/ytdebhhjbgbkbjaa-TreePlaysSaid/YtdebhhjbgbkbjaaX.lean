/-
  slices.Sort of ints that are owned, by its contract.
  Conditions: none.
-/
import Derived.Test.YtdebhhjbgbkbjaaF
import Derived.Sort.OwnSortedInts
namespace Go.S
open Go.Sort
set_option linter.unusedVariables false
set_option linter.unusedSimpArgs false
def srt (l : List Int) : List Int := l.mergeSort fun x y => decide (x ≤ y)
def xSort (l : List Int) : Option (List Int) := if l.length < 4611686018427387904 then some (srt l) else none
structure SortC (P : Program) (f : FuncId) : Prop where
  some' : ∀ (blk off cap : Nat) (zs : List Int) (w : World), Go.Sort.Holds (Value.int .i64) w blk off zs.toArray → blk < w.heap.size → zs.length < 4611686018427387904 →
    Calls P f #[.slice (some ⟨blk, off, none⟩) zs.length cap] w fun e w' => e = .returned (.tuple #[]) ∧ ∃ n os, w' = grow (Go.Sort.putRow (Value.int .i64) (Sort.ahead w n) blk off (zs.mergeSort fun x y => decide (x ≤ y)).toArray) os
  none' : ∀ (p : Option Addr) (cap : Nat) (w : World), Calls P f #[.slice p 0 cap] w fun e w' => e = .returned (.tuple #[]) ∧ w' = w
section
variable {P : Program} {Q : Exit → Act → World → Prop} {n : Nat} {fs : Fr} {t : TypeId} {ops : Array Oper} {rest : List Oper} {d : Nat} {pos : String} {af : Array Edge}
variable {w0 : World} {own : List Nat} {m : List As} {x : Operand} {e : TypeId} {i : Nat} {v : Value} {l : List Int} {f : FuncId} {ts : Array TypeId}
end
end Go.S
