/-
  A range over a function: the law for a function of classes.
  Conditions: none.
-/
import Derived.Test.YtdebhhjbgbkbjaaRh
namespace Go.S
open Go.RowKit
set_option linter.unusedVariables false
set_option linter.unusedSimpArgs false
/-- What a round keeps for the iterator: the cells ahead of n0, and a box. -/
structure KpB (n0 Bs : Nat) (A B : World) : Prop where
  low : ∀ k, k < n0 → B.heap[k]? = A.heap[k]?
  box : B.heap[Bs]? = A.heap[Bs]?
theorem KpB.refl (n0 Bs : Nat) (A : World) : KpB n0 Bs A A := ⟨fun _ _ => rfl, rfl⟩
theorem KpB.trans {n0 Bs : Nat} {A B C : World} (h : KpB n0 Bs A B) (h2 : KpB n0 Bs B C) : KpB n0 Bs A C := ⟨fun k hk => (h2.low k hk).trans (h.low k hk), h2.box.trans h.box⟩
/-- An iterator that hands over these, with a number beside each. -/
def HandsOver {β : Type} (P : Program) (gf Bs n0 : Nat) (ev : β → Value) (xs : List β) (w : World) : Prop :=
  ∀ (l : Nat) (J : List β → World → Prop) (W : World), KpB n0 Bs w W →
    (∀ x rest W1 i, J (x :: rest) W1 → YieldAt Fence.wide 7 P l #[.int .i64 i, ev x] W1 fun e W' => e = .returned (.bool true) ∧ J rest W' ∧ KpB n0 Bs W1 W') →
    J xs W → CallsIn Fence.wide 8 P gf #[.func (.yield l) #[] #[], pt Bs 0] W fun e W' => (∃ v, e = .returned v) ∧ J [] W'
def KA {β : Type} (J1 : β → List β → Fr → List As → Prop) (x : β) (rest : List β) (n : Nat) (w : World) (own : List Nat) : Exit → Act → World → Prop :=
  KN fun a w' => ∃ gs m', J1 x rest gs m' ∧ Slots n gs a ∧ Cls w own m' w'
def KB {β : Type} (J0 : List β → List As → Prop) (rest : List β) (w : World) (own : List Nat) : Exit → Act → World → Prop :=
  KN fun a w' => ∃ m', J0 rest m' ∧ Cls w own m' w'
def postM (P : Program) (fn : Func) (D : Nat) (RR : Ending → World → Prop) : Exit → Act → World → Prop := fun e a w => match e with
  | .ret => w.heap[D]? = some (.deferred (some [])) ∧ ∃ v, (results fn a.tmps).run P (w.putObj D (.deferred none)) = .ok v (w.putObj D (.deferred none)) ∧ RR (.returned v) (w.putObj D (.deferred none))
  | _ => False
section
variable {P : Program} {n : Nat} {w : World} {fn : Func} {R : Value → List As → Prop}
theorem E.assignJ {β : Type} {J1 : β → List β → Fr → List As → Prop} {x : β} {rest : List β} {wG : World} {oG : List Nat} {m m' : List As} {gs fs : Fr} (h : J1 x rest gs m') (hF : Sub gs fs) (hD : ∀ w, Cls wG oG m w → Cls wG oG m' w) : E .normal (KA J1 x rest n wG oG) n (Cls wG oG m) fs :=
  fun _ w hs hc => ⟨gs, m', h, hs.sub hF, hD w hc⟩
theorem E.roundJ {β : Type} {J0 : List β → List As → Prop} {rest : List β} {wG : World} {oG : List Nat} {m m' : List As} {fs : Fr} (h : J0 rest m') (hD : ∀ w, Cls wG oG m w → Cls wG oG m' w) : E .normal (KB J0 rest wG oG) n (Cls wG oG m) fs :=
  fun _ w hs hc => ⟨m', h, hD w hc⟩
end
end Go.S
