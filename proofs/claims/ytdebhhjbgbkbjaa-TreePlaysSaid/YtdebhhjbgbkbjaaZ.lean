/-
  What an argument of a law holds, with what its parts weigh.
  Conditions: none.
-/
import Derived.Test.YtdebhhjbgbkbjaaR
import Derived.SizedLaws
namespace Go.S
open Go.ChangeShapes Go.WideShapes Go.ChangeAt Go.RowKit
set_option linter.unusedVariables false

/-- These cells can be read at this type, and no part of them is too large. -/
def Rz (P : Program) (w : World) (t : TypeId) (cs : List Value) : Prop :=
  ∃ (H : Type) (enc : TypeId × Value → H) (fuel : Nat) (held : Bool) (base : Nat) (x : DataW H × List MemPlace), DataW.trod enc P w base (fun _ => true) held fuel t cs = some x ∧ ∀ n ∈ x.1.weights P t, n ≤ reachBytes
section
variable {P : Program} {w : World} {t : TypeId} {cs : List Value}
theorem Rz.rd (h : Rz P w t cs) : Rd P w t cs := by
  obtain ⟨H, enc, fuel, held, base, x, h, _⟩ := h
  exact ⟨H, enc, fuel, held, base, x, h⟩
theorem Rz.of {H : Type} {enc : TypeId × Value → H} {v : Value} {d : DataW H} {ps : List MemPlace} {ts : List TypeId} {ds : List (DataW H)} (h : DataW.Trod enc P w 0 (fun _ => true) true t v d ps) (hz : (DataW.weightsEach P ts ds).all (· ≤ reachBytes) = true) (j : Nat) (ht : ts[j]? = some t) (hd : ds[j]? = some d) : Rz P w t v.cells.toList := by
  obtain ⟨fuel, hf⟩ := h
  refine ⟨H, enc, fuel, true, 0, _, hf, fun n hn => ?_⟩
  have := List.all_eq_true.1 hz n (DataW.weights_mem_each ht hd n hn)
  simpa using this
theorem weights_all {H : Type} {e : TypeId} : ∀ {l : List (DataW H)} {d : DataW H}, d ∈ l → ∀ n ∈ d.weights P e, n ∈ DataW.weightsAll P e l
  | d0 :: l, d, h, n, hn => by
    simp only [DataW.weightsAll, List.mem_append]
    rcases List.mem_cons.1 h with rfl | h
    · exact Or.inl hn
    · exact Or.inr (weights_all h n hn)
theorem Rz.str (ht : P.underlying t = some .string) (h : Rz P w t cs) : ∃ l, cs = [st l] ∧ l.length ≤ reachBytes := by
  obtain ⟨H, enc, fuel, held, base, x, h, hz⟩ := h
  obtain ⟨s, h1, h2, _⟩ := DataW.trod_string ht h
  refine ⟨s.data.toList, by rw [h1]; rfl, hz _ ?_⟩
  rw [h2]
  simp [DataW.weights]
theorem Rz.slice {e : TypeId} {k : Nat} (ht : P.underlying t = some (.slice e)) (hk : P.cellsOf e = k) (h : Rz P w t cs) : ∃ v rows, cs = [v] ∧ At w v k rows ∧ (∀ r ∈ rows, Rz P w e r) ∧ rows.length * P.bytesOf e ≤ reachBytes := by
  subst hk
  obtain ⟨H, enc, fuel, held, base, x, h, hz⟩ := h
  rcases Go.Deep.open_slice ht h with ⟨rfl, _⟩ | ⟨a, len, cap, m, n, D, Pl, rfl, hb, hl, hm, hmm, hx, hi⟩
  · exact ⟨_, [], rfl, At.nil w _, by simp, by simp⟩
  · have hm' : m = cap := by simpa using hmm
    subst hm'
    rw [hx] at hz
    simp only [DataW.weights, ht] at hz
    have hrow : ∀ i : Fin len, ∃ cs', w.cells? base (a.add (i.val * P.cellsOf e)) (P.cellsOf e) = some cs' ∧ Rz P w e cs' := fun i => by
      obtain ⟨cs', h1, h2⟩ := hi i.val (by omega)
      refine ⟨cs', h1, H, enc, n, held, base, _, h2, fun q hq => hz q ?_⟩
      refine List.mem_cons_of_mem _ (List.mem_append_left _ (weights_all (d := D i.val) ?_ q hq))
      exact List.mem_map.2 ⟨i.val, List.mem_range.2 i.isLt, rfl⟩
    let rows := List.ofFn fun i : Fin len => Classical.choose (hrow i)
    have hlen : rows.length = len := List.length_ofFn
    have hget : ∀ (i : Nat) (r : List Value), rows[i]? = some r → w.cells? base (a.add (i * P.cellsOf e)) (P.cellsOf e) = some r ∧ Rz P w e r := by
      intro i r hr
      obtain ⟨hlt, he⟩ := List.getElem?_eq_some_iff.1 hr
      have hil : i < len := by omega
      have hs := Classical.choose_spec (hrow ⟨i, hil⟩)
      have : r = Classical.choose (hrow ⟨i, hil⟩) := by rw [← he]; simp [rows]
      rw [this]; exact hs
    refine ⟨_, rows, rfl, ⟨.inr ⟨a, m, by rw [hlen], by omega, hm⟩, fun r hr => ?_, fun i r j x hr hx => ?_⟩, fun r hr => ?_, ?_⟩
    · obtain ⟨i, hi'⟩ := List.getElem?_of_mem hr
      exact (World.cells?_some (hget i r hi').1).2.1
    · obtain ⟨_, h2, h3⟩ := World.cells?_some (hget i r hr).1
      have hj := (List.getElem?_eq_some_iff.1 hx).1
      rw [← add_add]
      exact (h3 j (by omega)).trans hx
    · obtain ⟨i, hi'⟩ := List.getElem?_of_mem hr
      exact (hget i r hi').2
    · have := hz _ (List.mem_cons_self ..)
      simp only [List.length_map, List.length_range] at this
      rw [hlen]
      refine Nat.le_trans (Nat.mul_le_mul_right _ ?_) this
      omega
/-- One field. -/
theorem Rz.fld {fs : Array Field} (ht : P.underlying t = some (.struct fs)) (h : Rz P w t cs) (i : Nat) (u : TypeId) (o c : Nat) (hi : (fs[i]?).map (fun f => (f.type, f.offset)) = some (u, o)) (hc : P.cellsOf u = c) : Rz P w u ((cs.drop o).take c) := by
  cases hf : fs[i]? with
  | none => rw [hf] at hi; cases hi
  | some f =>
    rw [hf] at hi
    simp only [Option.map_some, Option.some.injEq, Prod.mk.injEq] at hi
    obtain ⟨rfl, rfl⟩ := hi
    subst hc
    obtain ⟨H, enc, fuel, held, base, x, h, hz⟩ := h
    obtain ⟨xs, n, _, hxx, hl, hx, hfs⟩ := DataW.trod_struct ht h
    have h1 := hfs i f hf
    have hil : i < xs.length := by rw [hx]; exact (Array.getElem?_eq_some_iff.1 hf).1
    rw [List.getElem?_eq_getElem hil] at h1
    refine ⟨H, enc, n, held, base, _, h1, fun q hq => hz q ?_⟩
    rw [hxx]
    simp only [DataW.weights, ht]
    refine DataW.weights_mem_each (j := i) (t := f.type) (d := xs[i].1) ?_ ?_ q hq
    · rw [List.getElem?_map]
      simp [hf]
    · rw [List.getElem?_map, List.getElem?_eq_getElem hil]
      rfl
end
end Go.S
