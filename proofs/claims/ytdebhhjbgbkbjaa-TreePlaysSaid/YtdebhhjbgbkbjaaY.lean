/-
  What single operations yield, in every world of a class.
  Conditions: none.
-/
import Derived.Test.YtdebhhjbgbkbjaaS
import Derived.IntWalk
import Derived.Laws.DeepStrings4
namespace Go.S
variable {P : Program} {n : Nat} {C : World → Prop} {fs : Fr} {t : TypeId}

theorem Y.of {op : Op} {v : Value} (h : ∀ (d : Option Tmp) (pos : String) (af : Array Edge) (g : Option (Nat × Bool)) a w, Slots n fs a → C w → (execOp a.eval ⟨d, op, t, pos, af, g⟩).run P w = .ok (.value v) w) : Y P op t n fs C v := by
  intro d pos af g a w hs hc
  rw [h d pos af g a w hs hc]
  exact ⟨rfl, rfl⟩

theorem Y.move {x : Operand} {v : Value} (hx : val fs x = some v) : Y P (.move x) t n fs C v :=
  Y.of fun d pos af g a w hs hc => by simp [execOp, hs.eval hx]
theorem Y.assign {x : Operand} {v : Value} (hx : val fs x = some v) : Y P (.assign x) t n fs C v :=
  Y.of fun d pos af g a w hs hc => by simp [execOp, hs.eval hx]
theorem Y.pickT {c x y : Operand} {v : Value} (hc : val fs c = some (.bool true)) (hx : val fs x = some v) : Y P (.pick c x y) t n fs C v :=
  Y.of fun d pos af g a w hs hw => by simp only [execOp, hs.eval hx, hs.eval hc]; simp [asBool]
theorem Y.pickF {c x y : Operand} {v : Value} (hc : val fs c = some (.bool false)) (hy : val fs y = some v) : Y P (.pick c x y) t n fs C v :=
  Y.of fun d pos af g a w hs hw => by simp only [execOp, hs.eval hy, hs.eval hc]; simp [asBool]

section ints
variable {x y : Operand} {k : IntKind} {a b : Int} {tx ty : TypeId}
theorem Y.lss (hx : val fs x = some (.int k a)) (hy : val fs y = some (.int k b)) : Y P (.binOp .lss tx x y ty) t n fs C (.bool (decide (a < b))) :=
  Y.of fun d pos af g s w hs hw => by simp only [execOp, hs.eval hx, hs.eval hy]; simp [go_sem]
theorem Y.leq (hx : val fs x = some (.int k a)) (hy : val fs y = some (.int k b)) : Y P (.binOp .leq tx x y ty) t n fs C (.bool (decide (a ≤ b))) :=
  Y.of fun d pos af g s w hs hw => by simp only [execOp, hs.eval hx, hs.eval hy]; simp [go_sem]
theorem Y.gtr (hx : val fs x = some (.int k a)) (hy : val fs y = some (.int k b)) : Y P (.binOp .gtr tx x y ty) t n fs C (.bool (decide (b < a))) :=
  Y.of fun d pos af g s w hs hw => by simp only [execOp, hs.eval hx, hs.eval hy]; simp [go_sem]
theorem Y.geq (hx : val fs x = some (.int k a)) (hy : val fs y = some (.int k b)) : Y P (.binOp .geq tx x y ty) t n fs C (.bool (decide (b ≤ a))) :=
  Y.of fun d pos af g s w hs hw => by simp only [execOp, hs.eval hx, hs.eval hy]; simp [go_sem]
theorem Y.eql (hx : val fs x = some (.int k a)) (hy : val fs y = some (.int k b)) : Y P (.binOp .eql tx x y ty) t n fs C (.bool (decide (a = b))) :=
  Y.of fun d pos af g s w hs hw => by
    have : (a == b) = decide (a = b) := by by_cases h : a = b <;> simp [h]
    simp only [execOp, hs.eval hx, hs.eval hy]; simp [go_sem, this]
theorem Y.neq (hx : val fs x = some (.int k a)) (hy : val fs y = some (.int k b)) : Y P (.binOp .neq tx x y ty) t n fs C (.bool (decide (a ≠ b))) :=
  Y.of fun d pos af g s w hs hw => by
    have : (a != b) = decide (a ≠ b) := by by_cases h : a = b <;> simp [h]
    simp only [execOp, hs.eval hx, hs.eval hy]; simp [go_sem, this]
/-- A sum that stays in its kind. -/
theorem Y.add (hx : val fs x = some (.int k a)) (hy : val fs y = some (.int k b)) (hw : k.wrap (a + b) = a + b) : Y P (.binOp .add tx x y ty) t n fs C (.int k (a + b)) :=
  Y.of fun d pos af g s w hs _ => by simp only [execOp, hs.eval hx, hs.eval hy]; simp [go_sem, hw]
theorem Y.sub (hx : val fs x = some (.int k a)) (hy : val fs y = some (.int k b)) (hw : k.wrap (a - b) = a - b) : Y P (.binOp .sub tx x y ty) t n fs C (.int k (a - b)) :=
  Y.of fun d pos af g s w hs _ => by simp only [execOp, hs.eval hx, hs.eval hy]; simp [go_sem, hw]
theorem i64_in {a : Int} (h0 : -9223372036854775808 ≤ a) (h1 : a ≤ 9223372036854775807) : IntKind.i64.wrap a = a := IntWalk.i64_in a ⟨h0, h1⟩
theorem Y.remT (hx : val fs x = some (.int k a)) (hy : val fs y = some (.int k b)) (hb : b ≠ 0) : Y P (.binOp .rem tx x y ty) t n fs C (.int k (a.tmod b)) :=
  Y.of fun d pos af g s w hs _ => by simp only [execOp, hs.eval hx, hs.eval hy]; simp [go_sem, hb]
theorem Y.shr {yk : IntKind} (hx : val fs x = some (.int k a)) (hy : val fs y = some (.int yk b)) (h0 : 0 ≤ b) (h1 : b ≤ k.bits) : Y P (.binOp .shr tx x y ty) t n fs C (.int k (a / 2 ^ b.toNat)) :=
  Y.of fun d pos af g s w hs _ => by simp only [execOp, hs.eval hx, hs.eval hy]; simp [binOp_shr, shift_shr k yk a b h0 h1, eqGuard_shr]
end ints

theorem Y.neqB {x y : Operand} {a b : Bool} {tx ty : TypeId} (hu : P.underlying tx = some .bool) (hx : val fs x = some (.bool a)) (hy : val fs y = some (.bool b)) : Y P (.binOp .neq tx x y ty) t n fs C (.bool (!(a == b))) :=
  Y.of fun d pos af g s w hs hw => by simp only [execOp, hs.eval hx, hs.eval hy]; simp [run_neq_bool w tx a b hu, eqGuard_at_bool]
theorem Y.not {x : Operand} {b : Bool} {tx : TypeId} (hx : val fs x = some (.bool b)) : Y P (.unOp .not tx x) t n fs C (.bool (!b)) :=
  Y.of fun d pos af g s w hs hw => by simp only [execOp, hs.eval hx]; simp [go_sem]

/-! ### Strings: by their bytes -/
def st (l : List UInt8) : Value := .string ⟨l.toArray⟩
theorem Y.neqS {x y : Operand} {a b : List UInt8} {tx ty : TypeId} (hx : val fs x = some (st a)) (hy : val fs y = some (st b)) : Y P (.binOp .neq tx x y ty) t n fs C (.bool (decide (a ≠ b))) :=
  Y.of fun d pos af g s w hs hw => by
    have : (!(a == b)) = decide (a ≠ b) := by by_cases h : a = b <;> simp [h]
    simp only [execOp, hs.eval hx, hs.eval hy, st]; simp [binOp_string_neq, eqGuard_at_string, this]
theorem Y.conv {x : Operand} {src dst : TypeId} {k k' : IntKind} {a : Int} {ds : TypeDesc} (hs' : P.underlying src = some ds) (hd : P.underlying dst = some (.int k')) (hx : val fs x = some (.int k a)) : Y P (.convert src dst x) t n fs C (.int k' (k'.wrap a)) :=
  Y.of fun d pos af g s w hs hw => by
    simp only [execOp, hs.eval hx]
    simp [convert, run_underlying hs', run_underlying hd, Conv.intToInt]
theorem Y.extract {x : Operand} {vs : List Value} {i : Nat} {v : Value} (hx : val fs x = some (.tuple vs.toArray)) (hi : vs[i]? = some v) : Y P (.extract x i) t n fs C v :=
  Y.of fun d pos af g s w hs hw => by simp only [execOp, hs.eval hx]; simp [Instr.extract, hi]
end Go.S
