/-
  Operations that make and write memory.
  Conditions: none.
-/
import Derived.Test.YtdebhhjbgbkbjaaO
namespace Go.S
variable {P : Program} {Q : Exit → Act → World → Prop} {n : Nat} {fs : Fr} {t : TypeId} {ops : Array Oper} {rest : List Oper} {d : Nat} {pos : String} {af : Array Edge}
variable {w0 : World} {own : List Nat} {m : List As}

/-- The zero value's cells. -/
def zeroB (P : Program) (t : TypeId) : Option (List Value) := (P.info? t).bind fun i => i.zero.map (·.cells.toList)

theorem run_zero {cs : List Value} (h : zeroB P t = some cs) (w : World) : ∃ z, (zeroValue t).run P w = .ok z w ∧ z.cells = cs.toArray := by
  unfold zeroB at h
  cases hi : P.info? t with
  | none => simp [hi] at h
  | some i =>
    simp only [hi, Option.bind_some] at h
    cases hz : i.zero with
    | none => simp [hz] at h
    | some z =>
      simp only [hz, Option.map_some, Option.some.injEq] at h
      exact ⟨z, by simp [zeroValue, typeInfo, hi, hz], by rw [← h]⟩

/-- One operation, run: the world behind it is told. -/
theorem L.runs {op : Op} {C : World → Prop} {R : Value → World → Prop} (hd : Nat.blt d n = true)
    (hr : ∀ a w, Slots n fs a → C w → ∃ v w', (execOp a.eval ⟨some d, op, t, pos, af, none⟩).run P w = .ok (.value v) w' ∧ R v w')
    (k : ∀ v, L P ops Q n (R v) rest ((d, v) :: fs)) : L P ops Q n C (⟨some d, op, t, pos, af, none⟩ :: rest) fs := by
  intro a w hs hw
  obtain ⟨v, w', h, hv⟩ := hr a w hs hw
  simp only [wpList, Region.wanted, if_true]
  refine .inl ?_
  unfold Oper.wp
  rw [h]
  exact k v _ w' (hs.put hd v) hv
theorem L.runsNone {op : Op} {C D : World → Prop}
    (hr : ∀ a w, Slots n fs a → C w → ∃ w', (execOp a.eval ⟨none, op, t, pos, af, none⟩).run P w = .ok .skip w' ∧ D w')
    (k : L P ops Q n D rest fs) : L P ops Q n C (⟨none, op, t, pos, af, none⟩ :: rest) fs := by
  intro a w hs hw
  obtain ⟨w', h, hv⟩ := hr a w hs hw
  simp only [wpList, Region.wanted, if_true]
  refine .inl ?_
  unfold Oper.wp
  rw [h]
  exact k _ w' hs hv
theorem L.fresh {op : Op} {D : Nat → World → Prop} {C : World → Prop} {val' : Nat → Value} (hd : Nat.blt d n = true)
    (hr : ∀ a w, Slots n fs a → C w → ∃ b w', (execOp a.eval ⟨some d, op, t, pos, af, none⟩).run P w = .ok (.value (val' b)) w' ∧ D b w')
    (k : ∀ b, L P ops Q n (D b) rest ((d, val' b) :: fs)) : L P ops Q n C (⟨some d, op, t, pos, af, none⟩ :: rest) fs := by
  intro a w hs hw
  obtain ⟨b, w', h, hv⟩ := hr a w hs hw
  simp only [wpList, Region.wanted, if_true]
  refine .inl ?_
  unfold Oper.wp
  rw [h]
  exact k b _ w' (hs.put hd _) hv

/-- A new variable, zero. -/
theorem L.alloc {e : TypeId} {cs : List Value} (hd : Nat.blt d n = true) (hz : zeroB P e = some cs) (k : ∀ b, L P ops Q n (Cls w0 own (.obj b cs e :: m)) rest ((d, pt b 0) :: fs)) :
    L P ops Q n (Cls w0 own m) (⟨some d, .alloc e, t, pos, af, none⟩ :: rest) fs :=
  L.fresh (val' := fun b => pt b 0) hd (fun a w hs hw => by
    obtain ⟨z, h1, h2⟩ := run_zero hz w
    exact ⟨w.heap.size, _, by simp [execOp, Instr.alloc, h1, newVar, newRow, h2, pt], hw.alloc cs e⟩) k
/-- A new variable that holds a value. -/
theorem L.box {e : TypeId} {x : Operand} {v : Value} (hd : Nat.blt d n = true) (hx : val fs x = some v) (k : ∀ b, L P ops Q n (Cls w0 own (.obj b v.cells.toList e :: m)) rest ((d, pt b 0) :: fs)) :
    L P ops Q n (Cls w0 own m) (⟨some d, .box e x, t, pos, af, none⟩ :: rest) fs :=
  L.fresh (val' := fun b => pt b 0) hd (fun a w hs hw => by
    refine ⟨w.heap.size, _, ?_, hw.alloc v.cells.toList e⟩
    simp only [execOp, hs.eval hx]
    simp [Instr.box, newVar, newRow, pt]) k

/-! ### Stores -/
/-- A list with some of its places written over. -/
def over (c : List Value) (off : Nat) : List Value → List Value
  | [] => c
  | v :: vs => over (c.set off v) (off + 1) vs

theorem over_length : ∀ (vs : List Value) (c : List Value) (off : Nat), (over c off vs).length = c.length
  | [], _, _ => rfl
  | v :: vs, c, off => by simp [over, over_length vs]

structure Turned (w w' : World) (b : Nat) : Prop where
  os : w'.os = w.os
  tape : w'.tape = w.tape
  output : w'.output = w.output
  size : w'.heap.size = w.heap.size
  drawn : w'.drawn = w.drawn
  rest : ∀ k, k ≠ b → w'.heap[k]? = w.heap[k]?
theorem Turned.refl (w : World) (b : Nat) : Turned w w b := ⟨rfl, rfl, rfl, rfl, rfl, fun _ _ => rfl⟩
theorem Turned.trans {w1 w2 w3 : World} {b : Nat} (h : Turned w1 w2 b) (k : Turned w2 w3 b) : Turned w1 w3 b :=
  ⟨k.os.trans h.os, k.tape.trans h.tape, k.output.trans h.output, k.size.trans h.size, k.drawn.trans h.drawn, fun i hi => (k.rest i hi).trans (h.rest i hi)⟩

theorem run_storeCells (b : Nat) (e : TypeId) (off : Nat) : ∀ (vs : List Value) (i : Nat) (c : List Value) (w : World), w.heap[b]? = some (.cells c.toArray e (0, 0)) → off + i + vs.length ≤ c.length → (∀ u ∈ vs, u.oneCell' = true) →
    ∃ w', (storeCells ⟨b, off, none⟩ vs i).run P w = .ok () w' ∧ w'.heap[b]? = some (.cells (over c (off + i) vs).toArray e (0, 0)) ∧ Turned w w' b
  | [], i, c, w, hb, _, _ => ⟨w, by simp [storeCells], hb, Turned.refl w b⟩
  | v :: vs, i, c, w, hb, hl, h1 => by
    simp only [List.length_cons] at hl
    have hcell : w.cell? ⟨b, off + i, none⟩ = some (c[off + i]'(by omega)) := by
      simp [World.cell?, hb, List.getElem?_eq_getElem (show off + i < c.length by omega)]
    have hfz : w.frozen? ⟨b, off + i, none⟩ = false := by simp [World.frozen?, hb]
    have hst := run_store P w ⟨b, off + i, none⟩ v .plain (h1 v (by simp))
    rw [hcell] at hst
    simp only [hfz, Bool.false_eq_true, if_false] at hst
    have hb' : (w.setCell ⟨b, off + i, none⟩ v).heap[b]? = some (.cells (c.set (off + i) v).toArray e (0, 0)) := by
      simp only [World.setCell, Array.getElem?_modify, if_true, hb, Option.map_some]
      simp
    have ht : Turned w (w.setCell ⟨b, off + i, none⟩ v) b := ⟨rfl, rfl, rfl, by simp [World.setCell], rfl, fun k hk => RowKit.Below.heap_setCell w _ _ _ hk⟩
    obtain ⟨w', h2, h3, h4⟩ := run_storeCells b e off vs (i + 1) (c.set (off + i) v) _ hb' (by simp; omega) (fun u hu => h1 u (by simp [hu]))
    refine ⟨w', ?_, by rw [over, show off + i + 1 = off + (i + 1) by omega]; exact h3, ht.trans h4⟩
    simp only [storeCells, Sem.run_bind, Addr.add_lit, hst, Result.andThen, h2]

theorem Cls.wrote {w w' : World} {i b : Nat} {c c' : List Value} {e : TypeId} (h : Cls w0 own m w) (hi : m[i]? = some (.obj b c e)) (ht : Turned w w' b) (hb : w'.heap[b]? = some (.cells c'.toArray e (0, 0))) : Cls w0 own (m.set i (.obj b c' e)) w' :=
  h.turn hi rfl ht.os ht.tape ht.output ht.size (Nat.le_of_eq ht.drawn.symm) (fun k hk => ht.rest k (by simpa [As.foot] using hk)) hb

/-- A store into a block of one's own. -/
theorem L.store {x y : Operand} {b off i k : Nat} {c : List Value} {e te : TypeId} {v : Value} {vs : List Value} (hs : szB P te k = true) (hx : val fs x = some (pt b off)) (hy : val fs y = some v) (hv : v.cells.toList = vs) (hk : vs.length = k)
    (h1 : ∀ u ∈ vs, u.oneCell' = true) (hm : m[i]? = some (.obj b c e)) (hl : off + k ≤ c.length) (next : L P ops Q n (Cls w0 own (m.set i (.obj b (over c off vs) e))) rest fs) :
    L P ops Q n (Cls w0 own m) (⟨none, .store te x y, t, pos, af, none⟩ :: rest) fs :=
  L.runsNone (fun a w hs' hw => by
    have hb := hw.get hm
    obtain ⟨w', h2, h3, h4⟩ := run_storeCells (P := P) b e off vs 0 c w hb (by omega) h1
    refine ⟨w', ?_, hw.wrote hm h4 h3⟩
    simp only [execOp, hs'.eval hx, hs'.eval hy]
    have hsz : v.cells.size = k := by rw [← hk, ← hv]; simp
    simp [Instr.storeAt, Instr.sureAddr, pt, storeVar, run_sizeOf hs, hsz, hv, h2]) next

/-- A cell of what one owns. -/
theorem Cls.cell {w : World} (h : Cls w0 own m w) {i b off : Nat} {c : List Value} {e : TypeId} {v : Value} (hi : m[i]? = some (.obj b c e)) (hv : c[off]? = some v) : w.cell? ⟨b, off, none⟩ = some v := by
  have hb : w.heap[b]? = some (.cells c.toArray e (0, 0)) := h.get hi
  simp [World.cell?, hb, hv]
theorem Y.loadP {x : Operand} {b off i : Nat} {c : List Value} {e te : TypeId} {v : Value} (ha : aggB P te false = true) (hx : val fs x = some (pt b off)) (hm : m[i]? = some (.obj b c e)) (hv : c[off]? = some v) : Y P (.load te x) t n fs (Cls w0 own m) v :=
  Y.load1 ha hx fun _ hw => hw.cell hm hv
theorem Y.loadE1 {C : World → Prop} {x : Operand} {v : Value} {i : Nat} {rows : List (List Value)} {u : Value} {te : TypeId} (ha : aggB P te false = true) (hx : val fs x = some (el v (i * 1))) (hA : ∀ w, C w → At w v 1 rows) (hr : rows[i]? = some [u]) :
    Y P (.load te x) t n fs C u :=
  Y.load1 ha hx fun w hw => (hA w hw).cell i [u] 0 u hr rfl
theorem Y.loadEN {C : World → Prop} {x : Operand} {v : Value} {k i : Nat} {rows : List (List Value)} {r : List Value} {te : TypeId} (ha : aggB P te true = true) (hs : szB P te k = true) (hx : val fs x = some (el v (i * k))) (hA : ∀ w, C w → At w v k rows) (hr : rows[i]? = some r) (hk : r.length = k) :
    Y P (.load te x) t n fs C (.agg r.toArray) :=
  Y.loadN ha hs hx hk fun w hw j u hu => by rw [add_add]; exact (hA w hw).cell i r j u hr hu
end Go.S
