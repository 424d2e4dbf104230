/-
  Frozen memory: blocks that are made and then only read; slices into them may be shared and handed on.
  Conditions: none.
-/
import Derived.Test.YtdebhhjbgbkbjaaIk
namespace Go.S
set_option linter.unusedVariables false
set_option linter.unusedSimpArgs false
def held (c : List Ob) (w : World) : Prop := ∀ o ∈ c, w.heap[o.b]? = some (.cells o.c.toArray o.e (0, 0))
/-- In every world in which what one knows holds, and in which these blocks are as they are, the slice can be read. -/
def Fz (K : World → Prop) (c : List Ob) (v : Value) (k : Nat) (rows : List (List Value)) : Prop := ∀ w, K w → held c w → At w v k rows
/-- What one knows is of blocks that are there. -/
def Stb (K : World → Prop) (w : World) : Prop := ∀ w', RowKit.Below w.heap.size w w' → K w'
def Kn (K : World → Prop) (c : List Ob) (w : World) : Prop := K w ∧ held c w
def Mo (c c' : List Ob) : Prop := ∀ w, held c' w → held c w
section
variable {K : World → Prop} {c c' : List Ob} {v u : Value} {k : Nat} {rows : List (List Value)} {w0 w w' : World} {own : List Nat} {m : List As} {e : TypeId} {i j s : Nat}
theorem Fz.nil : Fz K c (.slice none 0 0) k [] := fun w _ _ => At.nil w k
section
variable {α : Type} {g : α → List Value} {l z : List α} {lo hi : Int}
theorem Fz.cutM (hA : Fz K c v k (l.map g)) (h : cut l 0 hi = some z) : Fz K c (cutv v hi.toNat) k (z.map g) := fun w hk hc => (hA w hk hc).cutM h
theorem Fz.dropM (hA : Fz K c v k (l.map g)) (h : cut l lo l.length = some z) : Fz K c (dropv v lo.toNat k) k (z.map g) := fun w hk hc => (hA w hk hc).dropM h
end
/-- All slices of a list. -/
def FzA (K : World → Prop) (c : List Ob) (L : List Sd) : Prop := ∀ d ∈ L, Fz K c d.v d.k d.rows
theorem FzA.nil : FzA K c [] := fun d hd => by cases hd
theorem FzA.app {L L' : List Sd} (h : FzA K c L) (h' : FzA K c L') : FzA K c (L ++ L') := fun d hd => by
  rcases List.mem_append.1 hd with h1 | h1
  · exact h d h1
  · exact h' d h1
theorem FzA.at {α : Type} {sds : α → List Value → List Sd} {vs : Nat → List Value} {l : List α} {a : Int} {u0 : α} (hd : FzA K c (zs sds vs l)) {nl : Nat} (hc : ∀ z v, (sds z v).length = nl) (hr : idx l a = some u0) (hj : (sds u0 (vs a.toNat))[j]? = some ⟨v, e, k, rows⟩) : Fz K c v k rows := fun w hk hh =>
  zAt (fun d hd' => hd d hd' w hk hh) hc hr hj
theorem Mo.refl : Mo c c := fun _ h => h
theorem Mo.trans {c1 c2 c3 : List Ob} (h : Mo c1 c2) (h' : Mo c2 c3) : Mo c1 c3 := fun w hw => h w (h' w hw)

/-! ### To freeze -/
end
section
variable {K : World → Prop} {c c' : List Ob} {P : Program} {Q : Exit → Act → World → Prop} {n : Nat} {C : World → Prop} {fs : Fr} {t : TypeId} {ops : Array Oper} {rest : List Oper} {d : Nat} {pos : String} {af : Array Edge}
variable {w0 w : World} {own : List Nat} {m : List As} {x y z : Operand} {e te tx ty : TypeId} {i j k kk by' p q s b : Nat} {v u : Value} {rows : List (List Value)}
/-! ### Slices of what holds frozen slices -/
variable {α ρ : Type} {r : ρ} {row : α → List Value → List Value} {sds : α → List Value → List Sd} {vs vs2 : Nat → List Value} {l l2 : List α} {a : Int} {u0 u1 : α} {f : List α → Option ρ}
/-- Plain cells, if the slices in them are plain. -/
def PlZ (row : α → List Value → List Value) (sds : α → List Value → List Sd) : Prop := ∀ x v, (∀ d ∈ sds x v, d.v.oneCell' = true) → ∀ u ∈ row x v, u.oneCell' = true
/-- Slices gathered. -/
def Sd.as (d : Sd) : As := .sl d.v d.e d.k d.rows
/-- Rows of one width, of plain cells. -/
structure Rw (k : Nat) where
  r : List Value
  len : r.length = k
  one : ∀ u ∈ r, u.oneCell' = true
def gtake (vs : Nat → List Value) (n : Nat) : Nat → List Value := vs
/-- What is left of the elements' slices from a place on. -/
def zsd {α : Type} (sds : α → List Value → List Sd) (vs : Nat → List Value) (l : List α) (j : Nat) : List Sd := zs sds (fun q => vs (q + j)) (l.drop j)
theorem L.cutT {β : Type} {g : β → List Value} {lb zb : List β} {hi : Int} {ll : List Oper} (h : Go.S.cut lb 0 hi = some zb) (hm : m[i]? = some (.sl v e k (lb.map g))) (next : L P ops Q n (Cls w0 own (m.set i (.sl (cutv v hi.toNat) e k (zb.map g)))) ll fs) : L P ops Q n (Cls w0 own m) ll fs := by
  obtain ⟨_, h1, h2, rfl⟩ := cut_some h
  refine L.to (fun w hw => ?_) next
  by_cases h0 : lb = []
  · subst h0
    have h3 : hi = 0 := by simp at h2; omega
    subst h3
    rcases (hw.get hm).2.2 with ⟨rfl, _⟩ | ⟨g', cap, cur, rfl, _⟩
    · have : m.set i (.sl (.slice none 0 0) e k []) = m := by
        obtain ⟨h4, h5⟩ := List.getElem?_eq_some_iff.1 hm
        exact (by rw [← show m[i] = As.sl (.slice none 0 0) e k [] from h5, List.set_getElem_self])
      simp only [List.drop_zero, List.take_nil, List.map_nil]
      show Cls w0 own (m.set i (.sl (.slice none 0 0) e k [])) w
      rw [this]; exact hw
    · have := hw.shrink (N' := 0) hm (Nat.zero_le _)
      simpa [rv, cutv] using this
  · obtain ⟨g', cap, rfl, hc, _⟩ := hw.row hm (by intro hn; exact h0 (List.map_eq_nil_iff.1 hn))
    have := hw.shrink (N' := hi.toNat) hm (by rw [List.length_map]; omega)
    rw [← List.map_take] at this
    simpa [rv, cutv] using this
end
end Go.S
