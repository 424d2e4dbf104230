/-
  Maps of ints; slices that can be read alone.
  Conditions: none.
-/
import Derived.Test.YtinchlfaepjfiaaDoorT
import Derived.MapKept
namespace Go.S
set_option linter.unusedSimpArgs false
/-! ### Maps with keys of ints -/
def mget {α : Type} (l : List (Int × α)) (k : Int) (z : α) : α := match l.find? (fun p => decide (p.1 = k)) with
  | some p => p.2
  | none => z
def mhas {α : Type} (l : List (Int × α)) (k : Int) : Bool := l.any fun p => decide (p.1 = k)
def mset {α : Type} (l : List (Int × α)) (k : Int) (v : α) : List (Int × α) := if mhas l k = true then l.map (fun p => if p.1 = k then (k, v) else p) else l ++ [(k, v)]
def mdel {α : Type} (l : List (Int × α)) (k : Int) : List (Int × α) := l.filter fun p => !decide (p.1 = k)
abbrev VI (k : IntKind) (x : Int) : Value := .int k x
abbrev VB (b : Bool) : Value := .bool b
abbrev VA {α : Type} (row : α → List Value) (x : α) : Value := .agg (row x).toArray
def mrow {α : Type} (g : α → Value) (l : List (Int × α)) : List (Int × Value) := l.map fun p => (p.1, g p.2)
section
variable {α : Type} {g : α → Value} {l : List (Int × α)} {k a : Int} {v z : α}
end
section
variable {P : Program} {Q : Exit → Act → World → Prop} {n : Nat} {fs : Fr} {C : World → Prop} {t : TypeId} {ops : Array Oper} {rest : List Oper} {d : Nat} {pos : String} {af : Array Edge}
variable {w0 : World} {own : List Nat} {m : List As} {x y z : Operand} {kt et tx : TypeId} {i b : Nat} {l : List (Int × Value)} {a : Int} {v : Value}
/-- A map that is owned, ranged over or not. -/
structure Mpd (w : World) (b : Nat) (l : List (Int × Value)) (es : Array MapEntry) (clock : Nat) : Prop where
  here : w.heap[b]? = some (.map es clock)
  st : MapKept.Stamped es clock
  kv : es.toList.map (fun e => (e.key, e.val)) = l.map kvp
def mpOf : As → Option (Nat × List (Int × Value))
  | .mp b l => some (b, l)
  | .mi b _ l _ _ => some (b, l)
  | _ => none
section gen
variable {α : Type} {g : α → Value} {lm : List (Int × α)} {z0 v0 : α}
end gen
/-! ### A slice that can be read alone -/
theorem over_all : ∀ (vs c p : List Value), vs.length = c.length → over (p ++ c) p.length vs = p ++ vs
  | [], c, p, h => by
    have : c = [] := List.length_eq_zero_iff.1 (by simpa using h.symm)
    subst this; rfl
  | v :: vs, [], p, h => by simp at h
  | v :: vs, u :: c, p, h => by
    have e : (p ++ u :: c).set p.length v = (p ++ [v]) ++ c := by rw [List.set_append_right _ _ (Nat.le_refl _)]; simp
    have := over_all vs c (p ++ [v]) (by simpa using h)
    rw [over, e, show p.length + 1 = (p ++ [v]).length by simp, this]
    simp
theorem L.storeArW {α : Type} {row : α → List Value} {l l' : List α} {e te : TypeId} {k kk c : Nat} (hn : l.length = c) (hn' : l'.length = c) (hk : c * k = kk) (hlen : ∀ z, (row z).length = k) (hp : Plain (l'.map row)) (hs : szB P te kk = true) (hx : val fs x = some (pt b 0)) (hy : val fs y = some (.agg (l'.map row).flatten.toArray))
    (hm : m[i]? = some (.obj b (l.map row).flatten e)) (next : L P ops Q n (Cls w0 own (m.set i (.obj b (l'.map row).flatten e))) rest fs) : L P ops Q n (Cls w0 own m) (⟨none, .store te x y, t, pos, af, none⟩ :: rest) fs := by
  have h1 := len_flat hlen l
  have h2 := len_flat hlen l'
  refine L.store (vs := (l'.map row).flatten) hs hx hy (by simp [Value.cells]) (by rw [h2, hn', hk]) (fun u hu => ?_) hm (by rw [h1, hn, hk]; omega) ?_
  · obtain ⟨r, hr, hur⟩ := List.mem_flatten.1 hu
    exact hp r hr u hur
  · have := over_all (l'.map row).flatten (l.map row).flatten [] (by rw [h1, h2, hn, hn'])
    simp only [List.nil_append, List.length_nil] at this
    rw [this]
    exact next
end
end Go.S
