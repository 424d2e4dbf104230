/-
  Code in a round of a range over a function, or behind one: walked by the laws of lists of operations.
  Conditions: none.
-/
import Derived.Test.YtdebhhjbgbkbjaaSg
import Derived.RangeFuncLeaves
import Derived.RangeFuncRecord
import Derived.RangeFuncCalls
import Derived.OrdersIn
import Derived.LoopNIn
namespace Go.S
set_option linter.unusedVariables false
set_option linter.unusedSimpArgs false

def dq (ds : List Deferred) (Q : Exit → Act → World → Prop) : Exit → Act → World → Prop := fun e a w => ∃ a0 : Act, a0.defers = [] ∧ a = { a0 with defers := ds } ∧ Q e a0 w
def NoOut (Q : Exit → Act → World → Prop) : Prop := ¬ LetsOut Q
inductive Wide : Fence → Prop where
  | flat : Wide Fence.wide
  | round (l : Nat) : Wide (Fence.wide.inRound l)
theorem Wide.fn {F : Fence} (h : Wide F) (f : FuncId) : F.fn f := by cases h <;> trivial
theorem Wide.depth {F : Fence} (h : Wide F) : F.depth = none := by cases h <;> rfl
theorem Wide.steps {F : Fence} (h : Wide F) {P : Program} {m m' : Machine} (hs : Steps P m m') : StepsIn (Machine.fenced P F) P m m' := by
  cases h with
  | flat => exact stepsIn_wide.2 hs
  | round l => rw [fenced_inRound]; exact stepsIn_wide.2 hs
theorem Wide.calls {F : Fence} (h : Wide F) {N : Nat} {P : Program} {f : FuncId} {args : Array Value} {w : World} {R : Ending → World → Prop} (hc : Calls P f args w R) : CallsIn F N P f args w R := by
  cases h with
  | flat => exact callsIn_wide.2 hc
  | round l => exact CallsIn.inRound l (callsIn_wide.2 hc)
theorem Wide.rows {F : Fence} (h : Wide F) {N : Nat} {P : Program} {f : String} {args : Array Value} {w : World} {R : Value → World → Prop} (hc : Rows P f args w R) : RowsIn F N P f args w R :=
  fun c cs _ => let ⟨v, w', hr, hs⟩ := hc c cs; ⟨v, w', hr, h.steps hs⟩

/-! ### Operations that defer nothing -/
def noDef : Op → Bool
  | .move _ | .assign _ | .alloc _ | .box _ _ | .build _ _ | .buildSlice _ _ _ | .load _ _ | .store _ _ _ | .binOp _ _ _ _ _ | .unOp _ _ _ | .convert _ _ _ | .fieldAddr _ _ _ | .field _ _ _ | .indexAddr _ _ _ | .index _ _ _ | .slice _ _ _ _ _ | .extract _ _ | .pick _ _ _ | .nilCheck _ | .lookup _ _ _ _ | .mapUpdate _ _ _ _ => true
  | .call c => match c.callee with
    | .builtin .append => true
    | .builtin .len => true
    | _ => false
  | _ => false
def noDefP (P : Program) (o : Op) : Bool := noDef o || match o with
  | .call ⟨.value (.func f), _, _⟩ => entB P f
  | _ => false
theorem noDef_ne {P : Program} {o : Op} (h : noDefP P o = true) (c : Call) : o ≠ .defer c := by rintro rfl; cases h
theorem val_ne {P : Program} (s : Sem Value) {w w' : World} {d : Deferred} : (do pure (Next.value (← s)) : Sem Next).run P w ≠ .ok (.defer d) w' := by
  rw [Sem.run_bind]
  cases s.run P w with
  | ok v w1 => simp [Result.andThen]
  | halt x w1 => simp [Result.andThen]
theorem unit_ne {P : Program} (s : Sem Unit) {w w' : World} {d : Deferred} : (do s; pure Next.skip : Sem Next).run P w ≠ .ok (.defer d) w' := by
  rw [Sem.run_bind]
  cases s.run P w with
  | ok v w1 => simp [Result.andThen]
  | halt x w1 => simp [Result.andThen]
theorem bind_ne {P : Program} {α : Type} {s : Sem α} {k : α → Sem Next} {d : Deferred} {w' : World} (h : ∀ v w1, (k v).run P w1 ≠ .ok (.defer d) w') (w : World) : (s >>= k).run P w ≠ .ok (.defer d) w' := by
  rw [Sem.run_bind]
  cases s.run P w with
  | ok v w1 => exact h v w1
  | halt x w1 => simp [Result.andThen]
theorem pan_ne {P : Program} {d : Deferred} {w w' : World} : (runtimePanic .nilDeref : Sem Next).run P w ≠ .ok (.defer d) w' := by
  unfold runtimePanic
  refine bind_ne (fun v w1 => ?_) w
  simp [goPanic]
theorem pur_ne {P : Program} {v : Value} {d : Deferred} {w w' : World} : (pure (Next.value v) : Sem Next).run P w ≠ .ok (.defer d) w' := by simp
theorem noDef_run {P : Program} {o : Oper} (h : noDefP P o.op = true) (a : Act) (w : World) (d : Deferred) (w' : World) : (execOp a.eval o).run P w ≠ .ok (.defer d) w' := by
  obtain ⟨dst, op, ty, pos, af, g⟩ := o
  intro hr
  unfold noDefP at h
  cases op <;> first | (cases h; done) | exact val_ne _ hr | exact unit_ne _ hr | (simp [execOp] at hr; done) | skip
  case call c =>
    obtain ⟨ce, as, ts⟩ := c
    cases ce with
    | builtin b =>
      cases b <;> first | (cases h; done) | skip
      all_goals (simp only [execOp, resolve, invoke, builtin, pure_bind] at hr; exact val_ne _ hr)
    | value x =>
      cases x <;> first | (cases h; done) | skip
      case func f =>
        have he : entB P f = true := by simpa [noDef] using h
        simp only [execOp, resolve] at hr
        simp [Act.eval, Deferred.ofValue, invoke, run_call he] at hr
    | _ => cases h
  case nilCheck x =>
    simp only [execOp] at hr
    split at hr <;> first | exact pan_ne hr | exact pur_ne hr | skip
    split at hr <;> first | exact pan_ne hr | exact pur_ne hr | skip
    refine bind_ne (fun v w1 => bind_ne (fun v2 w2 => ?_) w1) w hr
    split
    · exact bind_ne (fun _ _ => pur_ne) _
    · exact pur_ne
  case pick c x y =>
    simp only [execOp] at hr
    rw [Sem.run_bind] at hr
    cases h2 : (asBool (a.eval c)).run P w with
    | ok v w1 => rw [h2] at hr; simp [Result.andThen] at hr
    | halt v w1 => rw [h2] at hr; simp [Result.andThen] at hr

/-! ### Lists of operations, with what is deferred beside them -/
theorem put_ds (a : Act) (ds : List Deferred) (d : Option Tmp) (v : Value) : ({ a with defers := ds } : Act).put d v = { a.put d v with defers := ds } := by
  cases d <;> rfl
theorem put_defers (a : Act) (d : Option Tmp) (v : Value) : (a.put d v).defers = a.defers := by cases d <;> rfl
theorem eval_ds (a : Act) (ds : List Deferred) : ({ a with defers := ds } : Act).eval = a.eval := rfl
section
variable {P : Program} {F : Fence} {N : Nat} {ds : List Deferred} {Q : Exit → Act → World → Prop} {ops : Array Oper}
theorem dq.mk {e : Exit} {a : Act} {w : World} (h : Q e a w) (h0 : a.defers = []) : dq ds Q e { a with defers := ds } w := ⟨a, h0, rfl, h⟩
theorem op_in (hF : Wide F) (hq : NoOut Q) {o : Oper} (ho : noDefP P o.op = true) {K K' : Act → World → Prop} (hK : ∀ a w, a.defers = [] → K a w → K' { a with defers := ds } w) {a : Act} {w : World} (h0 : a.defers = []) (h : o.wp P a w K Q) :
    o.wpIn F N P { a with defers := ds } w K' (dq ds Q) := by
  refine ⟨fun f _ => hF.fn f, ?_⟩
  rw [Oper.semAt_eq _ _ _ (noDef_ne ho), eval_ds]
  have hd := noDef_run (P := P) ho a w
  unfold Oper.wp at h
  generalize (execOp a.eval o).run P w = r at h hd
  have hp : ∀ (v : Value) w, K (a.put o.dst v) w → K' (({ a with defers := ds } : Act).put o.dst v) w := fun v w hk => by rw [put_ds]; exact hK _ _ (by rw [put_defers]; exact h0) hk
  cases r with
  | ok x w' =>
    cases x <;> simp only [Oper.upon, Oper.uponIn] at h ⊢
    case value u => exact hp _ _ h
    case skip => exact hp _ _ h
    case defer d => exact absurd rfl (hd d w')
    case enter f args =>
      refine ⟨fun hs => (by rw [hF.depth] at hs; cases hs), hF.calls (Calls.mono h fun e w'' he => ?_)⟩
      cases e with
      | returned u => exact hp _ _ he
      | panicked c => exact dq.mk he h0
      | outgrown => exact (hq he).elim
    case row row args => exact ⟨fun hs => (by rw [hF.depth] at hs; cases hs), hF.rows (Rows.mono h fun u w'' he => hp _ _ he)⟩
  | halt x w' =>
    cases x <;> simp only [Oper.upon, Oper.uponIn] at h ⊢
    case panic u => exact dq.mk h h0
theorem list_in (hF : Wide F) (hq : NoOut Q) : ∀ (l : List Oper), (l.all fun o => noDefP P o.op) = true → ∀ (a : Act) (w : World), a.defers = [] → wpList P ops Q l a w → wpListIn F N P ops (dq ds Q) l { a with defers := ds } w
  | [], _, a, w, h0, h => dq.mk h h0
  | o :: l, hl, a, w, h0, h => by
    rw [List.all_cons, Bool.and_eq_true] at hl
    have ih := list_in hF hq l hl.2
    simp only [wpList, wpListIn] at h ⊢
    by_cases hw : Region.wanted o (yielded ops a.tmps) = true
    · simp only [hw, if_true] at h ⊢
      rcases h with h | ⟨_, h⟩
      · exact op_in hF hq hl.1 (fun a w h0 hk => ih a w h0 hk) h0 h
      · exact (hq h).elim
    · simp only [hw, Bool.false_eq_true, if_false] at h ⊢
      exact ⟨fun f _ => hF.fn f, by rw [put_ds]; exact ih _ _ (by rw [put_defers]; exact h0) h⟩
theorem any_in (hF : Wide F) (hq : NoOut Q) (hl : (ops.toList.all fun o => noDefP P o.op) = true) {md : Region.Mode} : ∀ (fuel : Nat) (listed : Array Bool) (a : Act) (w : World), a.defers = [] → wpAny P md ops Q fuel listed a w → wpAnyIn F N P md ops (dq ds Q) fuel listed { a with defers := ds } w
  | 0, listed, a, w, h0, h => ⟨h.1, dq.mk h.2 h0⟩
  | fuel + 1, listed, a, w, h0, h => by
    refine ⟨fun hr => dq.mk (h.1 hr) h0, fun i hi => ?_⟩
    have h2 := h.2 i hi
    have ih := any_in hF hq hl (md := md) fuel (listed.setIfInBounds i true)
    unfold wpOp at h2
    unfold wpOpIn
    cases ho : ops[i]? with
    | none => simp only [ho] at h2 ⊢; exact ih a w h0 h2
    | some o =>
      simp only [ho] at h2 ⊢
      have hno : noDefP P o.op = true := by
        rw [List.all_eq_true] at hl
        obtain ⟨hlt, he⟩ := Array.getElem?_eq_some_iff.1 ho
        exact hl o (by rw [← he]; simp)
      by_cases hw : Region.wanted o (yielded ops a.tmps) = true
      · simp only [hw, if_true] at h2 ⊢
        rcases h2 with h2 | ⟨_, h2⟩
        · exact op_in hF hq hno (fun a w h0 hk => ih a w h0 hk) h0 h2
        · exact (hq h2).elim
      · simp only [hw, Bool.false_eq_true, if_false] at h2 ⊢
        exact ⟨fun f _ => hF.fn f, by rw [put_ds]; exact ih _ _ (by rw [put_defers]; exact h0) h2⟩
end

/-! ### Code -/
def G (F : Fence) (N : Nat) (ds : List Deferred) (P : Program) (Q : Exit → Act → World → Prop) (n : Nat) (C : World → Prop) (c : Code) (fs : Fr) : Prop :=
  NoOut Q → ∀ a w, Slots n fs a → C w → c.wpIn F N P (dq ds Q) { a with defers := ds } w
def thenG (F : Fence) (N : Nat) (ds : List Deferred) (P : Program) (y : Code) (Q : Exit → Act → World → Prop) : Exit → Act → World → Prop := Exit.then (fun a w => NoOut Q → y.wpIn F N P (dq ds Q) { a with defers := ds } w) Q
section
variable {P : Program} {F : Fence} {N : Nat} {ds : List Deferred} {Q : Exit → Act → World → Prop} {n : Nat} {C : World → Prop} {fs : Fr}
theorem noOut_then {K : Act → World → Prop} (h : NoOut Q) : NoOut (Exit.then K Q) := fun ⟨a, w, h'⟩ => h ⟨a, w, h'⟩
theorem noOut_block {id : Nat} (h : NoOut Q) : NoOut (Exit.inBlock id Q) := fun ⟨a, w, h'⟩ => h ⟨a, w, h'⟩
theorem G.seq {x y : Code} (h : G F N ds P (thenG F N ds P y Q) n C x fs) : G F N ds P Q n C (.seq x y) fs := by
  intro hq a w hs hc
  refine wpIn_seq (wpIn_mono (h (noOut_then hq) a w hs hc) fun e a w => ?_)
  rintro ⟨a0, h0, rfl, h1⟩
  cases e with
  | normal => exact h1 hq
  | _ => exact dq.mk h1 h0
theorem E.thenG {y : Code} (h : G F N ds P Q n C y fs) : E .normal (thenG F N ds P y Q) n C fs := fun a w hs hc hq => h hq a w hs hc
theorem G.skip (h : E .normal Q n C fs) : G F N ds P Q n C .skip fs := fun _ a w hs hc => wpIn_skip (dq.mk (h a w hs hc) hs.defers)
theorem G.exit {id : Nat} (h : E (.exit id) Q n C fs) : G F N ds P Q n C (.exit id) fs := fun _ a w hs hc => wpIn_exit (dq.mk (h a w hs hc) hs.defers)
theorem G.ret (h : E .ret Q n C fs) : G F N ds P Q n C .ret fs := fun _ a w hs hc => wpIn_ret (dq.mk (h a w hs hc) hs.defers)
theorem G.block {id : Nat} {c : Code} (h : G F N ds P (Exit.inBlock id Q) n C c fs) : G F N ds P Q n C (.block id c) fs := by
  intro hq a w hs hc
  refine wpIn_block (wpIn_mono (h (noOut_block hq) a w hs hc) fun e a w => ?_)
  rintro ⟨a0, h0, rfl, h1⟩
  cases e with
  | exit id' =>
    simp only [Exit.inBlock] at h1 ⊢
    split at h1
    · rw [if_pos (by assumption)]; exact dq.mk h1 h0
    · rw [if_neg (by assumption)]; exact dq.mk h1 h0
  | _ => exact dq.mk h1 h0
theorem G.condT {c : Operand} {x y : Code} (hc : val fs c = some (.bool true)) (h : G F N ds P Q n C x fs) : G F N ds P Q n C (.cond c x y) fs :=
  fun hq a w hs hw => wpIn_cond_true (by rw [eval_ds]; exact hs.eval hc) (h hq a w hs hw)
theorem G.condF {c : Operand} {x y : Code} (hc : val fs c = some (.bool false)) (h : G F N ds P Q n C y fs) : G F N ds P Q n C (.cond c x y) fs :=
  fun hq a w hs hw => wpIn_cond_false (by rw [eval_ds]; exact hs.eval hc) (h hq a w hs hw)
theorem G.region {id : Nat} {l : List Oper} (hF : Wide F) (hl : (l.all fun o => noDefP P o.op) = true) (h : L P l.toArray Q n C l fs) : G F N ds P Q n C (.region id l.toArray false) fs :=
  fun hq a w hs hc => wpIn_region_list (list_in hF hq l hl a w hs.defers (h a w hs hc))
theorem NoPanic.out (h : NoOut Q) : NoOut (NoPanic Q) := fun ⟨a, w, h'⟩ => h ⟨a, w, h'⟩
theorem G.drawn2 {id k : Nat} {l : List Oper} (hF : Wide F) (hl : (l.all fun o => noDefP P o.op) = true) (S : Array Bool → World → Prop) (hk : l.length = k) (hm : P.follows .mixedOrders = true) (hdrew : ∀ w, C w → C { w with drawn := w.drawn + 1 }) (hb : ∀ w, C w → S (Array.replicate k false) w)
    (h : V2 P l.toArray Q n S (Array.replicate k false) k C fs) : G F N ds P Q n C (.region id l.toArray true) fs := by
  subst hk
  intro hq a w hs hc
  refine wpIn_mono (wpIn_region_any hm (any_in (Q := NoPanic Q) hF (NoPanic.out hq) (by simpa using hl) l.toArray.size _ a _ hs.defers (wpAny_of_F _ _ _ _ (by simpa using h a _ hs (hdrew w hc) (hb _ (hdrew w hc)))))) ?_
  rintro e a' w' ⟨a0, h0, rfl, h1⟩
  exact dq.mk (NoPanic.imp e a0 w' h1) h0
theorem G.loop {c : Code} {X : Type} (Ff : X → Fr) (D : X → World → Prop) (φ : X → Prop) (μ : X → Nat) (x0 : X) (h0 : φ x0) (hF : Sub (Ff x0) fs) (hD : ∀ w, C w → D x0 w)
    (round : ∀ x, φ x → G F N ds P (Exit.then (fun a w => ∃ x', φ x' ∧ μ x' < μ x ∧ Slots n (Ff x') a ∧ D x' w) Q) n (D x) c (Ff x)) : G F N ds P Q n C (.loop c) fs := by
  intro hq a w hs hc
  have key : ∀ k a w, (∃ x, φ x ∧ μ x < k ∧ Slots n (Ff x) a ∧ D x w) → Code.roundsIn F N P c (dq ds Q) k { a with defers := ds } w := by
    intro k
    induction k with
    | zero => rintro a w ⟨x, _, hk, _⟩; omega
    | succ k ih =>
      rintro a w ⟨x, hx, hk, hs, hd⟩
      rw [roundsIn_succ]
      refine wpIn_mono (round x hx (noOut_then hq) a w hs hd) ?_
      rintro e a' w' ⟨a0, h0, rfl, h1⟩
      cases e with
      | normal =>
        obtain ⟨x', h1, h2, h3, h4⟩ := h1
        exact ih a0 w' ⟨x', h1, by omega, h3, h4⟩
      | _ => exact dq.mk h1 h0
  exact wpIn_loop_rounds (μ x0 + 1) (key _ a w ⟨x0, h0, by omega, hs.sub hF, hD w hc⟩)
end
end Go.S
