/-
  Slices that are cut, grown, made.
  Conditions: none.
-/
import Derived.Test.YtdebhhjbgbkbjaaA
import Derived.Lib.AppendZeros
namespace Go.S
variable {P : Program} {Q : Exit → Act → World → Prop} {n : Nat} {fs : Fr} {t : TypeId} {ops : Array Oper} {rest : List Oper} {d : Nat} {pos : String} {af : Array Edge}
variable {w0 : World} {own : List Nat} {m : List As}

theorem elemOf_slice {tx e : TypeId} (hu : P.underlying tx = some (.slice e)) : P.underlying tx = some (.slice (P.elem tx)) := by simp [Program.elem, hu]
theorem elem_slice {tx e : TypeId} (hu : P.underlying tx = some (.slice e)) : P.elem tx = e := by simp [Program.elem, hu]

/-- x[:h] of what is in hand: the rest is let go. -/
theorem L.cut {x y : Operand} {i : Nat} {v : Value} {e : TypeId} {k : Nat} {rows : List (List Value)} {tx : TypeId} {ik : IntKind} {h : Int} (hd : Nat.blt d n = true) (hu : P.underlying tx = some (.slice e)) (hs : szB P e k = true) (hx : val fs x = some v) (hy : val fs y = some (.int ik h))
    (hm : m[i]? = some (.sl v e k rows)) (h0 : 0 ≤ h) (h1 : h ≤ rows.length) (next : ∀ v', L P ops Q n (Cls w0 own (m.set i (.sl v' e k (rows.take h.toNat)))) rest ((d, v') :: fs)) :
    L P ops Q n (Cls w0 own m) (⟨some d, .slice tx x none (some y) none, t, pos, af, none⟩ :: rest) fs := by
  refine L.runs (R := fun v' w' => Cls w0 own (m.set i (.sl v' e k (rows.take h.toNat))) w') hd (fun a w hsl hw => ?_) next
  obtain ⟨hr, hl, hown⟩ := hw.get hm
  have hh : h.toNat ≤ rows.length := by omega
  rcases hown with ⟨rfl, hn⟩ | ⟨g, cap, cur, rfl, hg, hh', hnc, hcm, hcs, htake⟩
  · have : rows = [] := List.length_eq_zero_iff.1 hn
    subst this
    have hz : h = 0 := by simp at h1; omega
    subst hz
    refine ⟨.slice none 0 0, w, ?_, hw.turn hm rfl rfl rfl rfl rfl (Nat.le_refl _) (fun _ _ => rfl) ⟨by simp, by simp, .inl ⟨rfl, by simp⟩⟩⟩
    have h := run_slice_h (P := P) w tx none 0 0 (elemOf_slice hu) ik 0 (by omega) (by omega)
    rw [elem_slice hu, run_sizeOf hs] at h
    simp only [execOp, hsl.eval hx, hsl.eval hy, Option.map_some, Option.map_none]
    simp [run_sliceAt_slice w tx _ _ _ _ (elemOf_slice hu), h, sliced]
  · have hrun := run_slice_h (P := P) w tx (some ⟨g, 0, none⟩) rows.length cap (elemOf_slice hu) ik h h0 (by omega)
    rw [elem_slice hu, run_sizeOf hs] at hrun
    refine ⟨.slice (some ⟨g, 0, none⟩) h.toNat cap, w, ?_, hw.turn hm rfl rfl rfl rfl rfl (Nat.le_refl _) (fun _ _ => rfl) ⟨fun r hr' => hr r (List.mem_of_mem_take hr'), ?_, .inr ⟨g, cap, cur, ?_, hg, hh', ?_, hcm, hcs, ?_⟩⟩⟩
    · simp only [execOp, hsl.eval hx, hsl.eval hy, Option.map_some, Option.map_none]
      simp [run_sliceAt_slice w tx _ _ _ _ (elemOf_slice hu), hrun, sliced]
      intro _
      simp [Addr.add]
    · have : ∀ (l : List (List Value)), (∀ r ∈ l, r.length = k) → l.flatten.length = l.length * k := by
        intro l
        induction l with
        | nil => intro _; simp
        | cons r l ih => intro hl; simp only [List.flatten_cons, List.length_append, List.length_cons, hl r (by simp), ih (fun q hq => hl q (by simp [hq])), Nat.succ_mul]; omega
      exact this _ fun r hr' => hr r (List.mem_of_mem_take hr')
    · simp [List.length_take]; omega
    · simp [List.length_take]; omega
    · have : (rows.take h.toNat).flatten = rows.flatten.take (h.toNat * k) := by
        have key : ∀ (l : List (List Value)) (j : Nat), (∀ r ∈ l, r.length = k) → (l.take j).flatten = l.flatten.take (j * k) := by
          intro l
          induction l with
          | nil => intro j _; simp
          | cons r l ih =>
            intro j hl
            cases j with
            | zero => simp
            | succ j =>
              have hrk := hl r (by simp)
              simp only [List.take_succ_cons, List.flatten_cons, ih j (fun q hq => hl q (by simp [hq]))]
              rw [List.take_append, List.take_of_length_le (l := r) (by rw [hrk, Nat.succ_mul]; omega), hrk, show (j + 1) * k - k = j * k by rw [Nat.succ_mul]; omega]
        exact key rows _ hr
      rw [this, ← htake, List.take_take]
      congr 1
      simp only [List.length_take]
      rw [show min h.toNat rows.length = h.toNat by omega]
      rw [Nat.min_eq_left (Nat.mul_le_mul_right k hh)]

/-- The same value, told otherwise. -/
theorem Y.as {C : World → Prop} {op : Op} {v v' : Value} (h : v = v') (hy : Y P op t n fs C v) : Y P op t n fs C v' := h ▸ hy
/-! ### A nil slice is in hand without any memory -/
theorem Cls.nilSl {w : World} (h : Cls w0 own m w) (e : TypeId) (k : Nat) : Cls w0 own (.sl (.slice none 0 0) e k [] :: m) w :=
  ⟨h.os, h.tape, h.output, h.dr, h.size, h.old, by simpa [As.foot, Value.ownBlock] using h.nodup, fun x hx => by
    rcases List.mem_cons.1 hx with rfl | hx
    · exact ⟨⟨by simp, by simp, .inl ⟨rfl, by simp⟩⟩, by simp [As.foot, Value.ownBlock]⟩
    · exact h.mine x hx⟩
theorem L.nilSl {l : List Oper} (e : TypeId) (k : Nat) (h : L P ops Q n (Cls w0 own (.sl (.slice none 0 0) e k [] :: m)) l fs) : L P ops Q n (Cls w0 own m) l fs := fun a w hs hw => h a w hs (hw.nilSl e k)
theorem W.nilSl {c : Code} (e : TypeId) (k : Nat) (h : W P Q n (Cls w0 own (.sl (.slice none 0 0) e k [] :: m)) c fs) : W P Q n (Cls w0 own m) c fs := fun a w hs hw => h a w hs (hw.nilSl e k)
theorem E.nilSl {x : Exit} (e : TypeId) (k : Nat) (h : E x Q n (Cls w0 own (.sl (.slice none 0 0) e k [] :: m)) fs) : E x Q n (Cls w0 own m) fs := fun a w hs hw => h a w hs (hw.nilSl e k)
theorem Plain.one {r : List Value} (h : ∀ u ∈ r, u.oneCell' = true) : Plain [r] := by
  intro q hq
  simp only [List.mem_singleton] at hq
  subst hq
  exact h

/-! ### Lists of numbers, truths, slices -/
def I (x : Int) : List Value := [.int .i64 x]
def ints (l : List Int) : List (List Value) := l.map I
def B (x : Bool) : List Value := [.bool x]
def bools (l : List Bool) : List (List Value) := l.map B
def vsl (l : List Value) : List (List Value) := l.map fun v => [v]
@[simp] theorem ints_length (l : List Int) : (ints l).length = l.length := by simp [ints]
@[simp] theorem bools_length (l : List Bool) : (bools l).length = l.length := by simp [bools]
@[simp] theorem vsl_length (l : List Value) : (vsl l).length = l.length := by simp [vsl]
theorem plain_ints (l : List Int) : Plain (ints l) := by
  intro r hr u hu
  simp only [ints, List.mem_map] at hr
  obtain ⟨x, _, rfl⟩ := hr
  simp only [I, List.mem_singleton] at hu
  subst hu; rfl
theorem map_get {α : Type} {f : α → List Value} {l : List α} {i : Nat} {x : α} (h : l[i]? = some x) : (l.map f)[i]? = some (f x) := by simp [h]
end Go.S
