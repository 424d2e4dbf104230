/-
  slices.Compact of ints that are owned, by its contract.
  Conditions: none.
-/
import Derived.Test.YtdebhhjbgbkbjaaX
import Derived.Test.YtdebhhjbgbkbjaaDp
import Derived.Lib.SlicesCompact
namespace Go.S
open Go.Sort
set_option linter.unusedVariables false
set_option linter.unusedSimpArgs false
def xCompact (l : List Int) : Option (List Int) := if l.length < 4611686018427387904 then some (Lib.compact l) else none
structure CompC (P : Program) (f : FuncId) : Prop where
  some' : ∀ (blk off cap : Nat) (zs : List Int) (w : World), Go.Sort.Holds (Value.int .i64) w blk off zs.toArray → zs.length ≤ 9223372036854775807 → zs.length ≤ cap →
    Calls P f #[.slice (some ⟨blk, off, none⟩) zs.length cap] w fun e w' => e = .returned (.slice (some ⟨blk, off, none⟩) (Lib.compact zs).length cap) ∧ ∃ q, w' = Go.Sort.putRow (Value.int .i64) (Sort.ahead w q) blk off (Lib.compact zs ++ List.replicate (zs.length - (Lib.compact zs).length) 0).toArray
  none' : ∀ (p : Option Addr) (cap : Nat) (w : World), Calls P f #[.slice p 0 cap] w fun e w' => e = .returned (.slice p 0 cap) ∧ w' = w
section
variable {P : Program} {Q : Exit → Act → World → Prop} {n : Nat} {fs : Fr} {t : TypeId} {ops : Array Oper} {rest : List Oper} {d : Nat} {pos : String} {af : Array Edge}
variable {w0 : World} {own : List Nat} {m : List As} {x : Operand} {e : TypeId} {i : Nat} {v : Value} {l : List Int} {f : FuncId} {ts : Array TypeId}
end
end Go.S
