/-
  Calls that may hand back a new pointer; slices handed on beside a pointer that is lent.
  Conditions: none.
-/
import Derived.Test.YtinchlfaepjfiaaDoorTl
namespace Go.S
set_option linter.unusedVariables false
set_option linter.unusedSimpArgs false
def bind9 {α0 α1 α2 α3 α4 α5 α6 α7 α8 ρ : Type} (o : Option (α0 × α1 × α2 × α3 × α4 × α5 × α6 × α7 × α8)) (f : α0 → α1 → α2 → α3 → α4 → α5 → α6 → α7 → α8 → Option ρ) : Option ρ := match o with
  | some (x0, x1, x2, x3, x4, x5, x6, x7, x8) => f x0 x1 x2 x3 x4 x5 x6 x7 x8
  | none => none
@[simp] theorem bind9_some {α0 α1 α2 α3 α4 α5 α6 α7 α8 ρ : Type} (x0 : α0) (x1 : α1) (x2 : α2) (x3 : α3) (x4 : α4) (x5 : α5) (x6 : α6) (x7 : α7) (x8 : α8) (f : α0 → α1 → α2 → α3 → α4 → α5 → α6 → α7 → α8 → Option ρ) : bind9 (some (x0, x1, x2, x3, x4, x5, x6, x7, x8)) f = f x0 x1 x2 x3 x4 x5 x6 x7 x8 := rfl
theorem bind9S {α0 α1 α2 α3 α4 α5 α6 α7 α8 ρ : Type} {o : Option (α0 × α1 × α2 × α3 × α4 × α5 × α6 × α7 × α8)} {f : α0 → α1 → α2 → α3 → α4 → α5 → α6 → α7 → α8 → Option ρ} {r : ρ} (h : bind9 o f = some r) : ∃ x0 x1 x2 x3 x4 x5 x6 x7 x8, o = some (x0, x1, x2, x3, x4, x5, x6, x7, x8) ∧ f x0 x1 x2 x3 x4 x5 x6 x7 x8 = some r := by
  cases o with
  | none => cases h
  | some z => obtain ⟨x0, x1, x2, x3, x4, x5, x6, x7, x8⟩ := z; exact ⟨x0, x1, x2, x3, x4, x5, x6, x7, x8, rfl, h⟩
def bind10 {α0 α1 α2 α3 α4 α5 α6 α7 α8 α9 ρ : Type} (o : Option (α0 × α1 × α2 × α3 × α4 × α5 × α6 × α7 × α8 × α9)) (f : α0 → α1 → α2 → α3 → α4 → α5 → α6 → α7 → α8 → α9 → Option ρ) : Option ρ := match o with
  | some (x0, x1, x2, x3, x4, x5, x6, x7, x8, x9) => f x0 x1 x2 x3 x4 x5 x6 x7 x8 x9
  | none => none
@[simp] theorem bind10_some {α0 α1 α2 α3 α4 α5 α6 α7 α8 α9 ρ : Type} (x0 : α0) (x1 : α1) (x2 : α2) (x3 : α3) (x4 : α4) (x5 : α5) (x6 : α6) (x7 : α7) (x8 : α8) (x9 : α9) (f : α0 → α1 → α2 → α3 → α4 → α5 → α6 → α7 → α8 → α9 → Option ρ) : bind10 (some (x0, x1, x2, x3, x4, x5, x6, x7, x8, x9)) f = f x0 x1 x2 x3 x4 x5 x6 x7 x8 x9 := rfl
theorem bind10S {α0 α1 α2 α3 α4 α5 α6 α7 α8 α9 ρ : Type} {o : Option (α0 × α1 × α2 × α3 × α4 × α5 × α6 × α7 × α8 × α9)} {f : α0 → α1 → α2 → α3 → α4 → α5 → α6 → α7 → α8 → α9 → Option ρ} {r : ρ} (h : bind10 o f = some r) : ∃ x0 x1 x2 x3 x4 x5 x6 x7 x8 x9, o = some (x0, x1, x2, x3, x4, x5, x6, x7, x8, x9) ∧ f x0 x1 x2 x3 x4 x5 x6 x7 x8 x9 = some r := by
  cases o with
  | none => cases h
  | some z => obtain ⟨x0, x1, x2, x3, x4, x5, x6, x7, x8, x9⟩ := z; exact ⟨x0, x1, x2, x3, x4, x5, x6, x7, x8, x9, rfl, h⟩
def bindE {α β ρ : Type} (o : Option (α ⊕ β)) (f : α → Option ρ) (g : β → Option ρ) : Option ρ := match o with
  | some (.inl x) => f x
  | some (.inr y) => g y
  | none => none
@[simp] theorem bindE_inl {α β ρ : Type} (x : α) (f : α → Option ρ) (g : β → Option ρ) : bindE (some (.inl x)) f g = f x := rfl
@[simp] theorem bindE_inr {α β ρ : Type} (y : β) (f : α → Option ρ) (g : β → Option ρ) : bindE (some (.inr y)) f g = g y := rfl
theorem bindES {α β ρ : Type} {o : Option (α ⊕ β)} {f : α → Option ρ} {g : β → Option ρ} {r : ρ} (h : bindE o f g = some r) : (∃ x, o = some (.inl x) ∧ f x = some r) ∨ ∃ y, o = some (.inr y) ∧ g y = some r := by
  cases o with
  | none => cases h
  | some z =>
    cases z with
    | inl x => exact .inl ⟨x, rfl, h⟩
    | inr y => exact .inr ⟨y, rfl, h⟩
section
variable {v : Value} {k : Nat} {rows : List (List Value)} {w0 w w' : World} {own F : List Nat} {m A M : List As}
theorem StbF.cls0 (h : StbF (fun w => At w v k rows) w F) (hw : Cls w F m w') : At w' v k rows := h w' hw.os hw.tape hw.output hw.size hw.old
theorem At.lendS (h : At w0 v k rows) (hw : Cls w0 [] (A ++ M) w') : StbF (fun w => At w v k rows) w' (A.flatMap As.foot) := fun w'' h1 h2 h3 h4 h5 => by
  refine ⟨h.shape, h.len, fun i r j x q1 q2 => ?_⟩
  have hx := h.cell i r j x q1 q2
  have hlt := World.block_lt_of_cell? w0 _ hx
  rw [World.cell?_of_block (w := w0)]
  · exact hx
  · rw [h5 _ (Nat.lt_of_lt_of_le hlt hw.size) (hw.lent_no hlt (by simp)), hw.old _ hlt (by simp)]
end
end Go.S
