/-
  A call of yield in a region; a function's contract from its walk by G.
  Conditions: none.
-/
import Derived.Test.YtdebhhjbgbkbjaaRi
namespace Go.S
open Go.RowKit
set_option linter.unusedVariables false
set_option linter.unusedSimpArgs false
/-- A list that is not too long. -/
def lim {α : Type} (l : List α) : Option Unit := if l.length ≤ 1000000000 then some () else none
section
variable {P : Program} {N : Nat} {Q : Exit → Act → World → Prop} {n : Nat} {C D : World → Prop} {fs gs : Fr}
theorem E.thenGX {F : Fence} {ds : List Deferred} {y : Code} {id : Nat} (h : E (.exit id) Q n C fs) : E (.exit id) (Go.S.thenG F N ds P y Q) n C fs := h
theorem bodyG {f : FuncId} {fn : Func} {c : Code} {vs : List Value} {R : Ending → World → Prop} {w : World}
    (hf : P.funcs[f]? = some fn) (hb : fn.body = some c) (hn : fn.ntmps = n) (hl : Nat.ble vs.length n = true) (hc : C w) (hno : ∀ w, ¬ R .outgrown w) (h : G Fence.wide N [] P (bodyPost P fn R) n C c (args 0 vs)) : CallsIn Fence.wide N P f vs.toArray w R := by
  have hl' : vs.length ≤ n := by simpa using hl
  subst hn
  have hs : Slots fn.ntmps (args 0 vs) { tmps := vs.toArray ++ Array.replicate (fn.ntmps - vs.toArray.size) undef, defers := [] } := Slots.enter vs _ _ (fun t v hv => by
    obtain ⟨_, h2⟩ := look_args vs 0 t v hv
    simp only [Nat.sub_zero] at h2
    have : t < vs.length := (List.getElem?_eq_some_iff.1 h2).1
    rw [List.getElem?_append_left this]
    exact h2) hl'
  refine callsIn_of_wp hf hb trivial (wpIn_mono (h (fun ⟨_, w, h⟩ => hno w h) _ w hs hc) ?_)
  rintro e a w' ⟨a0, h0, rfl, h1⟩
  have : ({ a0 with defers := [] } : Act) = a0 := by rw [← h0]
  rw [this]
  exact h1
end
end Go.S
