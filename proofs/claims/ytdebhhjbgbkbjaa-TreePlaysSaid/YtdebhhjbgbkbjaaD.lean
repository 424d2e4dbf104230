/-
  Arguments that hold slices of slices; pointers that may be nil; copy.
  Conditions: none.
-/
import Derived.Test.YtdebhhjbgbkbjaaJ
import Derived.Laws.IdiomCopy
import Derived.Lib.Repeat
namespace Go.S
set_option linter.unusedVariables false
set_option linter.unusedSimpArgs false
section
variable {P : Program} {Q : Exit → Act → World → Prop} {n : Nat} {C : World → Prop} {fs : Fr} {t : TypeId} {ops : Array Oper} {rest : List Oper} {d : Nat} {pos : String} {af : Array Edge}
variable {w0 : World} {own : List Nat} {m : List As} {x y : Operand} {e te tx ty : TypeId} {i j k by' : Nat} {v u : Value}
variable {α : Type} {row : α → List Value → List Value} {sds : α → List Value → List Sd} {vs : Nat → List Value} {l : List α} {a : Int} {u0 : α}
theorem zAt {w : World} (hd : ∀ d ∈ zs sds vs l, At w d.v d.k d.rows) {c : Nat} (hc : ∀ z v, (sds z v).length = c) (hr : idx l a = some u0) {rows : List (List Value)} (hj : (sds u0 (vs a.toNat))[j]? = some ⟨v, e, k, rows⟩) : At w v k rows := by
  have h1 := zs_get hc vs l a.toNat j u0 (idx_some hr).2.2 (sds_lt hc hj)
  rw [hj] at h1
  exact hd _ (List.mem_of_getElem? h1)
/-- Pointers held against nil. -/
theorem run_equalIn_ptr (w : World) (d : Nat) (a : Option Addr) (hu : P.underlying tx = some (.pointer e)) : (Op.equalIn (d + 1) tx (.pointer a) (.pointer none)).run P w = .ok a.isNone w := by
  cases a <;> simp [Op.equalIn, run_underlying hu]
theorem run_eql_ptr (w : World) (a : Option Addr) (hu : P.underlying tx = some (.pointer e)) : (binOp .eql tx (.pointer a) (.pointer none)).run P w = .ok (.bool a.isNone) w := by
  simp only [binOp]
  simp [Op.equal, Op.maxDepth, run_equalIn_ptr w 9999 a hu]
theorem Y.eqlP {p : Option Addr} (hu : P.underlying tx = some (.pointer e)) (hx : val fs x = some (.pointer p)) (hy : val fs y = some (.pointer none)) : Y P (.binOp .eql tx x y ty) t n fs C (.bool p.isNone) :=
  Y.of fun d pos af g s w hs hw => by
    have hg : (eqGuard .eql tx x y (.pointer p) (.pointer none)).run P w = .ok () w := by simp [eqGuard]
    simp only [execOp, hs.eval hx, hs.eval hy]
    simp [hg, run_eql_ptr w p hu]
/-! ### copy -/
def cpy (l s : List α) : List α := s.take (min s.length l.length) ++ l.drop (min s.length l.length)
theorem over_pre : ∀ (vs c p b : List Value), vs.length = c.length → over (p ++ c ++ b) p.length vs = p ++ vs ++ b
  | [], c, p, b, h => by
    have : c = [] := List.length_eq_zero_iff.1 (by simpa using h.symm)
    subst this; rfl
  | v :: vs, [], p, b, h => by simp at h
  | v :: vs, u :: c, p, b, h => by
    have e : (p ++ u :: c ++ b).set p.length v = (p ++ [v]) ++ c ++ b := by rw [List.append_assoc, List.set_append_right _ _ (Nat.le_refl _)]; simp
    have := over_pre vs c (p ++ [v]) b (by simpa using h)
    rw [over, e, show p.length + 1 = (p ++ [v]).length by simp, this]
    simp
end
/-- strings.Repeat, of what is not too large. -/
def xRepeat (s : List UInt8) (n : Int) : Option (List UInt8) := if 0 ≤ n ∧ n ≤ 1000000 ∧ s.length * n.toNat ≤ 140737488355328 then some (Lib.repeatL s n.toNat) else none
end Go.S
