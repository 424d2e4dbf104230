/-
  Arrays whose elements hold slices: the slices' values are a ghost; what they hold is owned beside the array.
  Conditions: none.
-/
import Derived.Test.YtdebhhjbgbkbjaaH
namespace Go.S
set_option linter.unusedVariables false
set_option linter.unusedSimpArgs false
def nilV : Value := .slice none 0 0
def gv (vs : List Value) (j : Nat) : Value := (vs[j]?).getD (.slice none 0 0)
def Sd.nil (e : TypeId) (k : Nat) : Sd := ⟨.slice none 0 0, e, k, []⟩
/-- The rows of an array's elements, with the ghost. -/
def zr {α : Type} (row : α → List Value → List Value) (vs : Nat → List Value) : List α → List (List Value)
  | [] => []
  | x :: xs => row x (vs 0) :: zr row (fun i => vs (i + 1)) xs
/-- What its slices hold. -/
def zs {α : Type} (sds : α → List Value → List Sd) (vs : Nat → List Value) : List α → List Sd
  | [] => []
  | x :: xs => sds x (vs 0) ++ zs sds (fun i => vs (i + 1)) xs
def gset (vs : Nat → List Value) (i : Nat) (x : List Value) : Nat → List Value := fun q => if q = i then x else vs q
theorem zs_get {α : Type} {sds : α → List Value → List Sd} {c : Nat} (hc : ∀ z v, (sds z v).length = c) : ∀ (vs : Nat → List Value) (xs : List α) (i j : Nat) (x : α), xs[i]? = some x → j < c → (zs sds vs xs)[i * c + j]? = (sds x (vs i))[j]?
  | _, [], i, j, x, h, _ => by simp at h
  | vs, y :: xs, 0, j, x, h, hj => by
    simp only [List.getElem?_cons_zero, Option.some.injEq] at h
    subst h
    simp only [zs, Nat.zero_mul, Nat.zero_add]
    rw [List.getElem?_append_left (by rw [hc]; exact hj)]
  | vs, y :: xs, i + 1, j, x, h, hj => by
    simp only [List.getElem?_cons_succ] at h
    simp only [zs]
    rw [List.getElem?_append_right (by rw [hc, Nat.succ_mul]; omega), hc, show (i + 1) * c + j - c = i * c + j by rw [Nat.succ_mul]; omega]
    exact zs_get hc (fun q => vs (q + 1)) xs i j x h hj
/-! ### The footprints -/
section
variable {w0 w w' : World} {own : List Nat} {m m' : List As}
/-- The same blocks, or some of them, told anew. -/
theorem Cls.re (h : Cls w0 own m w) (hsub : ∀ b ∈ m'.flatMap As.foot, b ∈ m.flatMap As.foot) (hn : (m'.flatMap As.foot).Nodup) (hold : ∀ x ∈ m', x.holds w) : Cls w0 own m' w := by
  refine ⟨h.os, h.tape, h.output, h.dr, h.size, h.old, hn, fun x hx => ⟨hold x hx, fun b hb => ?_⟩⟩
  obtain ⟨y, hy, hby⟩ := List.mem_flatMap.1 (hsub b (List.mem_flatMap.2 ⟨x, hx, hb⟩))
  exact (h.mine y hy).2 b hby
theorem Cls.rePerm (h : Cls w0 own m w) (hp : (m'.flatMap As.foot).Perm (m.flatMap As.foot)) (hold : ∀ x ∈ m', x.holds w) : Cls w0 own m' w :=
  h.re (fun b hb => hp.mem_iff.1 hb) (hp.nodup_iff.2 h.nodup) hold
end
end Go.S
