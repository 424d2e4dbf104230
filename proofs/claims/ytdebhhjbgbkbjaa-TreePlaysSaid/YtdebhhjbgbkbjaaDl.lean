/-
  slices.Delete of ints that are owned, by its contract.
  Conditions: none.
-/
import Derived.Test.YtdebhhjbgbkbjaaXc
namespace Go.S
open Go.Sort
set_option linter.unusedVariables false
set_option linter.unusedSimpArgs false
def xDel (l : List Int) (i j : Int) : Option (List Int) := if 0 ≤ i ∧ i < j ∧ j ≤ l.length ∧ l.length < 4611686018427387904 then some (l.take i.toNat ++ l.drop j.toNat) else none
def DelC (P : Program) (f : FuncId) : Prop :=
  ∀ (blk off cap i j : Nat) (zs : List Int) (w : World), Go.Sort.Holds (Value.int .i64) w blk off zs.toArray → zs.length ≤ cap → cap ≤ 9223372036854775807 → i ≤ j → j ≤ zs.length →
    Calls P f #[.slice (some ⟨blk, off, none⟩) zs.length cap, .int .i64 i, .int .i64 j] w fun e w' => e = .returned (.slice (some ⟨blk, off, none⟩) (zs.length - (j - i)) cap) ∧ ∃ q, w' = Go.Sort.putRow (Value.int .i64) (Sort.ahead w q) blk off (zs.take i ++ zs.drop j ++ List.replicate (j - i) 0).toArray
section
variable {P : Program} {Q : Exit → Act → World → Prop} {n : Nat} {fs : Fr} {t : TypeId} {ops : Array Oper} {rest : List Oper} {d : Nat} {pos : String} {af : Array Edge}
variable {w0 : World} {own : List Nat} {m : List As} {x y z : Operand} {e : TypeId} {i : Nat} {v : Value} {l : List Int} {f : FuncId} {ts : Array TypeId} {a b : Int}
end
end Go.S
