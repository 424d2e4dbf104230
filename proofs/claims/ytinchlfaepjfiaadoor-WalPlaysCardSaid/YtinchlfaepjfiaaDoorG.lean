/-
  Arrays whose elements hold slices: the slices' values are a ghost; what they hold is owned beside the array.
  Conditions: none.
-/
import Derived.Test.YtinchlfaepjfiaaDoorH
namespace Go.S
set_option linter.unusedVariables false
set_option linter.unusedSimpArgs false
def nilV : Value := .slice none 0 0
def gv (vs : List Value) (j : Nat) : Value := (vs[j]?).getD (.slice none 0 0)
def Sd.nil (e : TypeId) (k : Nat) : Sd := ⟨.slice none 0 0, e, k, []⟩
/-- The rows of an array's elements, with the ghost. -/
def zr {α : Type} (row : α → List Value → List Value) (vs : Nat → List Value) : List α → List (List Value)
  | [] => []
  | x :: xs => row x (vs 0) :: zr row (fun i => vs (i + 1)) xs
/-- What its slices hold. -/
def zs {α : Type} (sds : α → List Value → List Sd) (vs : Nat → List Value) : List α → List Sd
  | [] => []
  | x :: xs => sds x (vs 0) ++ zs sds (fun i => vs (i + 1)) xs
def gset (vs : Nat → List Value) (i : Nat) (x : List Value) : Nat → List Value := fun q => if q = i then x else vs q
theorem zr_length {α : Type} (row : α → List Value → List Value) : ∀ (vs : Nat → List Value) (xs : List α), (zr row vs xs).length = xs.length
  | _, [] => rfl
  | _, x :: xs => by simp [zr, zr_length row _ xs]
theorem zr_get {α : Type} (row : α → List Value → List Value) : ∀ (vs : Nat → List Value) (xs : List α) (i : Nat) (x : α), xs[i]? = some x → (zr row vs xs)[i]? = some (row x (vs i))
  | _, [], i, x, h => by simp at h
  | vs, y :: xs, 0, x, h => by simp only [List.getElem?_cons_zero, Option.some.injEq] at h; subst h; rfl
  | vs, y :: xs, i + 1, x, h => by
    simp only [List.getElem?_cons_succ] at h
    simp only [zr, List.getElem?_cons_succ]
    exact zr_get row (fun q => vs (q + 1)) xs i x h
theorem zs_get {α : Type} {sds : α → List Value → List Sd} {c : Nat} (hc : ∀ z v, (sds z v).length = c) : ∀ (vs : Nat → List Value) (xs : List α) (i j : Nat) (x : α), xs[i]? = some x → j < c → (zs sds vs xs)[i * c + j]? = (sds x (vs i))[j]?
  | _, [], i, j, x, h, _ => by simp at h
  | vs, y :: xs, 0, j, x, h, hj => by
    simp only [List.getElem?_cons_zero, Option.some.injEq] at h
    subst h
    simp only [zs, Nat.zero_mul, Nat.zero_add]
    rw [List.getElem?_append_left (by rw [hc]; exact hj)]
  | vs, y :: xs, i + 1, j, x, h, hj => by
    simp only [List.getElem?_cons_succ] at h
    simp only [zs]
    rw [List.getElem?_append_right (by rw [hc, Nat.succ_mul]; omega), hc, show (i + 1) * c + j - c = i * c + j by rw [Nat.succ_mul]; omega]
    exact zs_get hc (fun q => vs (q + 1)) xs i j x h hj
/-! ### The footprints -/
section
variable {w0 w w' : World} {own : List Nat} {m m' : List As}
end
end Go.S
