/-
  What an argument of a law holds, where its bulk is bounded; and elements that hold slices.
  Conditions: none.
-/
import Derived.Test.YtgkdimboofglfaaRows
import Derived.Test.YtgkdimboofglfaaR
import Derived.Test.YtgkdimboofglfaaG
namespace Go.Proofs.Ytgkdimboofglfaa
open Go.ChangeShapes Go.WideShapes Go.ChangeAt Go.RowKit Go.S
set_option linter.unusedVariables false
set_option linter.unusedSimpArgs false

theorem bulk_pos {H : Type} (d : DataW H) : 1 ≤ Rows.uptoBulk d := by
  cases d with
  | lit l => cases l <;> simp [Rows.uptoBulk]
  | _ => simp [Rows.uptoBulk]
theorem bulk_len {H : Type} : ∀ l : List (DataW H), l.length ≤ Rows.uptoBulkAll l
  | [] => Nat.zero_le _
  | d :: l => by
    have h1 := bulk_pos d
    have h2 := bulk_len l
    simp only [Rows.uptoBulkAll, List.length_cons]
    omega
theorem bulk_mem {H : Type} {d : DataW H} : ∀ {l : List (DataW H)}, d ∈ l → Rows.uptoBulk d ≤ Rows.uptoBulkAll l
  | d0 :: l, h => by
    simp only [Rows.uptoBulkAll]
    rcases List.mem_cons.1 h with rfl | h
    · omega
    · have := bulk_mem h
      omega
/-- These cells can be read at this type, and are of no greater bulk. -/
def Rk (P : Program) (w : World) (N : Nat) (t : TypeId) (cs : List Value) : Prop :=
  ∃ (H : Type) (enc : TypeId × Value → H) (fuel : Nat) (held : Bool) (base : Nat) (x : DataW H × List MemPlace), DataW.trod enc P w base (fun _ => true) held fuel t cs = some x ∧ Rows.uptoBulk x.1 ≤ N
section
variable {P : Program} {w : World} {t : TypeId} {cs : List Value} {N : Nat}
theorem Rk.rd (h : Rk P w N t cs) : Rd P w t cs := by
  obtain ⟨H, enc, fuel, held, base, x, h, _⟩ := h
  exact ⟨H, enc, fuel, held, base, x, h⟩
theorem Rk.of {H : Type} {enc : TypeId × Value → H} {v : Value} {d : DataW H} {ps : List MemPlace} (h : DataW.Trod enc P w 0 (fun _ => true) true t v d ps) (hN : Rows.uptoBulk d ≤ N) : Rk P w N t v.cells.toList := by
  obtain ⟨fuel, hf⟩ := h
  exact ⟨H, enc, fuel, true, 0, _, hf, hN⟩
theorem Rk.slice {e : TypeId} {k : Nat} (ht : P.underlying t = some (.slice e)) (hk : P.cellsOf e = k) (h : Rk P w N t cs) : ∃ v rows, cs = [v] ∧ At w v k rows ∧ (∀ r ∈ rows, Rk P w N e r) ∧ rows.length ≤ N := by
  subst hk
  obtain ⟨H, enc, fuel, held, base, x, h, hz⟩ := h
  rcases Go.Deep.open_slice ht h with ⟨rfl, _⟩ | ⟨a, len, cap, m, n, D, Pl, rfl, hb, hl, hm, hmm, hx, hi⟩
  · exact ⟨_, [], rfl, At.nil w _, by simp, by simp⟩
  · have hm' : m = cap := by simpa using hmm
    subst hm'
    rw [hx] at hz
    simp only [Rows.uptoBulk] at hz
    have hrow : ∀ i : Fin len, ∃ cs', w.cells? base (a.add (i.val * P.cellsOf e)) (P.cellsOf e) = some cs' ∧ Rk P w N e cs' := fun i => by
      obtain ⟨cs', h1, h2⟩ := hi i.val (by omega)
      refine ⟨cs', h1, H, enc, n, held, base, _, h2, ?_⟩
      have h3 := bulk_mem (List.mem_map.2 ⟨i.val, List.mem_range.2 i.isLt, rfl⟩ : D i.val ∈ (List.range len).map D)
      show Rows.uptoBulk (D i.val) ≤ N
      omega
    let rows := List.ofFn fun i : Fin len => Classical.choose (hrow i)
    have hlen : rows.length = len := List.length_ofFn
    have hget : ∀ (i : Nat) (r : List Value), rows[i]? = some r → w.cells? base (a.add (i * P.cellsOf e)) (P.cellsOf e) = some r ∧ Rk P w N e r := by
      intro i r hr
      obtain ⟨hlt, he⟩ := List.getElem?_eq_some_iff.1 hr
      have hil : i < len := by omega
      have hs := Classical.choose_spec (hrow ⟨i, hil⟩)
      have : r = Classical.choose (hrow ⟨i, hil⟩) := by rw [← he]; simp [rows]
      rw [this]; exact hs
    refine ⟨_, rows, rfl, ⟨.inr ⟨a, m, by rw [hlen], by omega, hm⟩, fun r hr => ?_, fun i r j x hr hx => ?_⟩, fun r hr => ?_, ?_⟩
    · obtain ⟨i, hi'⟩ := List.getElem?_of_mem hr
      exact (World.cells?_some (hget i r hi').1).2.1
    · obtain ⟨_, h2, h3⟩ := World.cells?_some (hget i r hr).1
      have hj := (List.getElem?_eq_some_iff.1 hx).1
      rw [← add_add]
      exact (h3 j (by omega)).trans hx
    · obtain ⟨i, hi'⟩ := List.getElem?_of_mem hr
      exact (hget i r hi').2
    · have h4 := bulk_len ((List.range len).map D)
      rw [List.length_map, List.length_range] at h4
      rw [hlen]
      omega
/-- One field. -/
theorem Rk.fld {fs : Array Field} (ht : P.underlying t = some (.struct fs)) (h : Rk P w N t cs) (i : Nat) (u : TypeId) (o c : Nat) (hi : (fs[i]?).map (fun f => (f.type, f.offset)) = some (u, o)) (hc : P.cellsOf u = c) : Rk P w N u ((cs.drop o).take c) := by
  cases hf : fs[i]? with
  | none => rw [hf] at hi; cases hi
  | some f =>
    rw [hf] at hi
    simp only [Option.map_some, Option.some.injEq, Prod.mk.injEq] at hi
    obtain ⟨rfl, rfl⟩ := hi
    subst hc
    obtain ⟨H, enc, fuel, held, base, x, h, hz⟩ := h
    obtain ⟨xs, n, _, hxx, hl, hx, hfs⟩ := DataW.trod_struct ht h
    have h1 := hfs i f hf
    have hil : i < xs.length := by rw [hx]; exact (Array.getElem?_eq_some_iff.1 hf).1
    rw [List.getElem?_eq_getElem hil] at h1
    refine ⟨H, enc, n, held, base, _, h1, ?_⟩
    rw [hxx] at hz
    simp only [Rows.uptoBulk] at hz
    have h3 := bulk_mem (List.mem_map.2 ⟨xs[i], List.getElem_mem hil, rfl⟩ : xs[i].1 ∈ xs.map (·.1))
    omega
end
/-- Rows that each are some thing's, with the values of its slices. -/
theorem exists_zr {α : Type} {row : α → List Value → List Value} {Q : α → List Value → Prop} : ∀ {rows : List (List Value)}, (∀ r ∈ rows, ∃ x vs, r = row x vs ∧ Q x vs) → ∃ (q : Nat → List Value) (l : List α), rows = zr row q l ∧ ∀ i x, l[i]? = some x → Q x (q i)
  | [], _ => ⟨fun _ => [], [], rfl, by simp⟩
  | r :: rows, h => by
    obtain ⟨x, vs, hx, hq⟩ := h r (by simp)
    obtain ⟨q, l, hl, hql⟩ := exists_zr (fun r hr => h r (by simp [hr]) : ∀ r ∈ rows, ∃ x vs, r = row x vs ∧ Q x vs)
    refine ⟨fun i => match i with
      | 0 => vs
      | i + 1 => q i, x :: l, by rw [hx, hl]; rfl, fun i y hy => ?_⟩
    cases i with
    | zero =>
      simp only [List.getElem?_cons_zero, Option.some.injEq] at hy
      subst hy; exact hq
    | succ i => exact hql i y (by simpa using hy)
theorem zs_all {α : Type} {sds : α → List Value → List Sd} {p : Sd → Prop} : ∀ (q : Nat → List Value) (l : List α), (∀ i x, l[i]? = some x → ∀ d ∈ sds x (q i), p d) → ∀ d ∈ zs sds q l, p d
  | q, [], _, d, hd => by simp [zs] at hd
  | q, x :: l, h, d, hd => by
    rw [zs, List.mem_append] at hd
    rcases hd with hd | hd
    · exact h 0 x rfl d hd
    · exact zs_all (fun i => q (i + 1)) l (fun i y hy => h (i + 1) y (by simpa using hy)) d hd
end Go.Proofs.Ytgkdimboofglfaa
