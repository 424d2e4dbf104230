/-
  A call of yield in a region; a function's contract from its walk by G.
  Conditions: none.
-/
import Derived.Test.YtfmgjigdebofaaaRi
namespace Go.S
open Go.RowKit
set_option linter.unusedVariables false
set_option linter.unusedSimpArgs false
/-- A list that is not too long. -/
def lim {α : Type} (l : List α) : Option Unit := if l.length ≤ 1000000000 then some () else none
theorem lim_some {α : Type} {l : List α} {u : Unit} (h : lim l = some u) : l.length ≤ 1000000000 := by
  unfold lim at h
  split at h
  · assumption
  · cases h
section
variable {P : Program} {N : Nat} {Q : Exit → Act → World → Prop} {n : Nat} {C D : World → Prop} {fs gs : Fr}
theorem E.thenGX {F : Fence} {ds : List Deferred} {y : Code} {id : Nat} (h : E (.exit id) Q n C fs) : E (.exit id) (Go.S.thenG F N ds P y Q) n C fs := h
theorem E.thenGR {F : Fence} {ds : List Deferred} {y : Code} (h : E .ret Q n C fs) : E .ret (Go.S.thenG F N ds P y Q) n C fs := h
theorem bodyG {f : FuncId} {fn : Func} {c : Code} {vs : List Value} {R : Ending → World → Prop} {w : World}
    (hf : P.funcs[f]? = some fn) (hb : fn.body = some c) (hn : fn.ntmps = n) (hl : Nat.ble vs.length n = true) (hc : C w) (hno : ∀ w, ¬ R .outgrown w) (h : G Fence.wide N [] P (bodyPost P fn R) n C c (args 0 vs)) : CallsIn Fence.wide N P f vs.toArray w R := by
  have hl' : vs.length ≤ n := by simpa using hl
  subst hn
  have hs : Slots fn.ntmps (args 0 vs) { tmps := vs.toArray ++ Array.replicate (fn.ntmps - vs.toArray.size) undef, defers := [] } := Slots.enter vs _ _ (fun t v hv => by
    obtain ⟨_, h2⟩ := look_args vs 0 t v hv
    simp only [Nat.sub_zero] at h2
    have : t < vs.length := (List.getElem?_eq_some_iff.1 h2).1
    rw [List.getElem?_append_left this]
    exact h2) hl'
  refine callsIn_of_wp hf hb trivial (wpIn_mono (h (fun ⟨_, w, h⟩ => hno w h) _ w hs hc) ?_)
  rintro e a w' ⟨a0, h0, rfl, h1⟩
  have : ({ a0 with defers := [] } : Act) = a0 := by rw [← h0]
  rw [this]
  exact h1
theorem G.yieldR {id d l : Nat} {l1 l2 : List Oper} {x y1 y2 : Operand} {v1 v2 : Value} {ts : Array TypeId} {t : TypeId} {pos : String} {af : Array Edge} (hl1 : (l1.all fun o => noDef o.op) = true) (hl2 : (l2.all fun o => noDef o.op) = true)
    (pre : L P (l1 ++ ⟨some d, .call ⟨.value x, #[y1, y2], ts⟩, t, pos, af, none⟩ :: l2).toArray (KN fun a w => Slots n gs a ∧ C w) n C l1 fs) (hd : Nat.blt d n = true) (hx : val gs x = some (.func (.yield l) #[] #[])) (hy1 : val gs y1 = some v1) (hy2 : val gs y2 = some v2)
    (hy : ∀ W, C W → YieldAt Fence.wide (N - 1) P l #[v1, v2] W fun e W' => e = .returned (.bool true) ∧ D W')
    (post : L P (l1 ++ ⟨some d, .call ⟨.value x, #[y1, y2], ts⟩, t, pos, af, none⟩ :: l2).toArray Q n D l2 ((d, .bool true) :: gs)) :
    G Fence.wide N [] P Q n C (.region id (l1 ++ ⟨some d, .call ⟨.value x, #[y1, y2], ts⟩, t, pos, af, none⟩ :: l2).toArray false) fs := by
  intro hq a w hs hc
  refine wpIn_region_list ?_
  refine list_in2 (K := fun a w => Slots n gs a ∧ C w) .flat l1 hl1 a w hs.defers (pre a w hs hc) ?_
  rintro a w h0 ⟨hs1, hc1⟩
  simp only [wpListIn, Region.wanted, if_true]
  refine ⟨fun f _ => trivial, ?_⟩
  obtain ⟨fn, tmps, assign, body, hr, hR⟩ := hy w hc1
  have hrun : (Oper.semAt Fence.wide.round ({ a with defers := [] } : Act).eval ⟨some d, .call ⟨.value x, #[y1, y2], ts⟩, t, pos, af, none⟩).run P w = .ok (.round l fn tmps assign body) w := by
    rw [show Fence.wide.round = none from rfl, Oper.semAt_none, eval_ds]
    simp only [execOp, resolve, hs1.eval hx]
    simp [Deferred.ofValue, invoke, hs1.eval hy1, hs1.eval hy2, hr]
  rw [hrun]
  refine ⟨fun h => (by cases h), hR.mono ?_⟩
  rintro e W' ⟨rfl, hD⟩
  have hs2 := hs1.put hd (.bool true)
  have hl := list_in (F := Fence.wide) (N := N) (ds := []) .flat hq l2 hl2 _ W' (by rw [put_defers]; exact h0) (post _ W' hs2 hD)
  rw [← put_ds] at hl
  exact hl
end
end Go.S
