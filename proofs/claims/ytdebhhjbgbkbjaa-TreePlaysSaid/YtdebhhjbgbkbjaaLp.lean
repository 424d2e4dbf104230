/-
  Loops over a list: what they answer.
  Conditions: none.
-/
import Derived.Test.YtdebhhjbgbkbjaaJ
namespace Go.S
set_option linter.unusedVariables false
set_option linter.unusedSimpArgs false
section
variable {α σ ρ : Type}
def orGo (o : Option (Option ρ)) (k : Option ρ) : Option ρ := match o with
  | some e => e
  | none => k
@[simp] theorem orGo_some (e k : Option ρ) : orGo (some e) k = e := rfl
@[simp] theorem orGo_none (k : Option ρ) : orGo none k = k := rfl
def sumGo (o : Option ρ ⊕ σ) (k : σ → Option ρ) : Option ρ := match o with
  | .inl e => e
  | .inr s => k s
@[simp] theorem sumGo_inl (e : Option ρ) (k : σ → Option ρ) : sumGo (.inl e) k = e := rfl
@[simp] theorem sumGo_inr (s : σ) (k : σ → Option ρ) : sumGo (.inr s) k = k s := rfl
/-- A walk along a list: each element lets it end, or go on. -/
def scanR (X : Nat → α → σ → Option ρ ⊕ σ) (E : σ → Option ρ) : Nat → List α → σ → Option ρ
  | _, [], s => E s
  | i, x :: l, s => match X i x s with
    | .inl e => e
    | .inr s' => scanR X E (i + 1) l s'
/-- Without a state. -/
def scanX (X : Nat → α → Option (Option ρ)) (E : Option ρ) : Nat → List α → Option ρ
  | _, [] => E
  | i, x :: l => match X i x with
    | some e => e
    | none => scanX X E (i + 1) l
end
end Go.S
