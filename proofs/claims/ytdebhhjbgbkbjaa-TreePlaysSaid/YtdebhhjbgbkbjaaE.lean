/-
  '==' of structs and arrays, cell by cell; and more operations.
  Conditions: none.
-/
import Derived.Test.YtdebhhjbgbkbjaaK
import Derived.ChangeKeysEq
import Derived.Laws.StructEq
import Derived.Laws.Cover3
namespace Go.S
/-- The cells at these places lie one behind another, from o up to tot. -/
def tileB (P : Program) (tot : Nat) : Nat → List Field → Bool
  | o, [] => Nat.beq o tot
  | o, f :: r => Nat.beq f.offset o && tileB P tot (o + P.cellsOf f.type) r
/-- These cells are some value of this type: of ints, bools and strings. -/
def shB (P : Program) : Nat → TypeId → List Value → Bool
  | 0, _, _ => false
  | d + 1, t, cs =>
    match P.underlying t, cs with
    | some .bool, [.bool _] => true
    | some (.int q), [.int q' _] => decide (q' = q)
    | some .string, [.string _] => true
    | some (.array n e), cs => Nat.beq cs.length (n * P.cellsOf e) && (P.info? e).isSome && (List.range n).all fun i => shB P d e ((cs.drop (i * P.cellsOf e)).take (P.cellsOf e))
    | some (.struct fs), cs => (fs.toList.all fun f => f.name != "_") && !P.stoodInHeld t && tileB P cs.length 0 fs.toList && fs.toList.all fun f => shB P d f.type ((cs.drop f.offset).take (P.cellsOf f.type))
    | _, _ => false
def Vof (P : Program) (t : TypeId) (cs : List Value) (v : Value) : Prop := (aggB P t true = true ∧ v = .agg cs.toArray) ∨ (aggB P t false = true ∧ cs = [v])

section
variable {P : Program} {w : World}
def EqC (P : Program) (d : Nat) (t : TypeId) (m : Nat) : Prop := ∀ (w : World) (v v' : Value) (cs cs' : List Value), shB P m t cs = true → shB P m t cs' = true → Vof P t cs v → Vof P t cs' v' →
  ∃ r : Bool, (Op.equalIn d t v v').run P w = .ok r w ∧ (r = true ↔ cs = cs')
end
section
variable {P : Program} {Q : Exit → Act → World → Prop} {n : Nat} {C : World → Prop} {fs : Fr} {t : TypeId} {ops : Array Oper} {rest : List Oper} {d : Nat} {pos : String} {af : Array Edge} {x y : Operand} {tx ty : TypeId}
variable {α : Type}
/-- A slice held against nil. -/
theorem Y.eqlNil {e : TypeId} {p : Option Addr} {l c : Nat} (hu : P.underlying tx = some (.slice e)) (hx : val fs x = some (.slice p l c)) (hy : val fs y = some (.slice none 0 0)) : Y P (.binOp .eql tx x y ty) t n fs C (.bool p.isNone) :=
  Y.of fun d pos af g s w hs hw => by
    have h := run_equal_slice_nil (P := P) w tx e p l c hu
    have hg : (eqGuard .eql tx x y (.slice p l c) (.slice none 0 0)).run P w = .ok () w := by simp [eqGuard]
    have hb : (binOp .eql tx (.slice p l c) (.slice none 0 0)).run P w = .ok (.bool p.isNone) w := by
      simp only [binOp]; simp [h]
    simp only [execOp, hs.eval hx, hs.eval hy]
    simp [hg, hb]
end
end Go.S
