/-
  Slices that a call makes: a literal, append, make.
  Conditions: none.
-/
import Derived.Test.YtdebhhjbgbkbjaaW
import Derived.Maps.AppendAt
namespace Go.S
variable {P : Program} {Q : Exit → Act → World → Prop} {n : Nat} {fs : Fr} {t : TypeId} {ops : Array Oper} {rest : List Oper} {d : Nat} {pos : String} {af : Array Edge}
variable {w0 : World} {own : List Nat} {m : List As}

def elemB (P : Program) (e : TypeId) (k by' : Nat) : Bool := match P.info? e with
  | some i => Nat.beq i.size k && Nat.beq i.bytes by' && Nat.blt 0 k && (match i.zero with
    | some z => Nat.beq z.cells.size k
    | none => false)
  | none => false

theorem elemB_out {e : TypeId} {k by' : Nat} (h : elemB P e k by' = true) : ∃ i z, P.info? e = some i ∧ i.zero = some z ∧ i.size = k ∧ i.bytes = by' ∧ z.cells.size = k ∧ 0 < k := by
  unfold elemB at h
  cases hi : P.info? e with
  | none => simp [hi] at h
  | some i =>
    simp only [hi, Bool.and_eq_true] at h
    obtain ⟨⟨⟨h1, h2⟩, h3⟩, h4⟩ := h
    cases hz : i.zero with
    | none => simp [hz] at h4
    | some z =>
      simp only [hz] at h4
      exact ⟨i, z, rfl, hz, Nat.eq_of_beq_eq_true h1, Nat.eq_of_beq_eq_true h2, Nat.eq_of_beq_eq_true h4, by simpa using h3⟩

/-- Cells that may stand in a block. -/
def Plain (rows : List (List Value)) : Prop := ∀ r ∈ rows, ∀ u ∈ r, u.oneCell' = true

theorem At.flat {w : World} {v : Value} {k : Nat} {rows : List (List Value)} (h : At w v k rows) : rows.flatten.length = rows.length * k := by
  have : ∀ (l : List (List Value)), (∀ r ∈ l, r.length = k) → l.flatten.length = l.length * k := by
    intro l
    induction l with
    | nil => intro _; simp
    | cons r l ih => intro hl; simp only [List.flatten_cons, List.length_append, List.length_cons, hl r (by simp), ih (fun q hq => hl q (by simp [hq])), Nat.succ_mul]; omega
  exact this rows h.len
theorem At.flat_cell {w : World} {v : Value} {k : Nat} {rows : List (List Value)} (h : At w v k rows) (hk : 0 < k) : ∀ j u, rows.flatten[j]? = some u → w.cell? ((adr v).add j) = some u := by
  intro j u hu
  have hj := (List.getElem?_eq_some_iff.1 hu).1
  rw [h.flat] at hj
  have hi : j / k < rows.length := (Nat.div_lt_iff_lt_mul hk).2 hj
  have hr := List.getElem?_eq_getElem hi
  have hm : j % k < (rows[j / k]).length := by rw [h.len _ (List.getElem_mem hi)]; exact Nat.mod_lt _ hk
  have hx := List.getElem?_eq_getElem hm
  have h1 := h.cell _ _ _ _ hr hx
  have h2 := flatten_get rows _ _ _ _ h.len hr hx
  have e : j / k * k + j % k = j := by rw [Nat.mul_comm]; exact Nat.div_add_mod j k
  rw [e] at h1 h2
  rw [hu] at h2
  injection h2 with h2
  rw [h2]; exact h1

theorem run_append_nil_src (base : Nat) (t ty e : TypeId) (size : Nat) (ht : P.underlying t = some (.slice e)) (hs : szB P e size = true) {w : World} {v : Value} {n : Nat} {xs : List Value} (hown : w.ownsRow base e size v n xs) : (Builtin.append_ #[t, t] ty #[v, .slice none 0 0]).run P w = .ok v w := by
  rcases hown.2 with ⟨rfl, rfl⟩ | ⟨g, cap, cur, rfl, _, _, hnc, _⟩
  · simp [Builtin.append_, run_underlying ht, run_sizeOf hs, Builtin.lenOf, Builtin.firstCells]
  · simp [Builtin.append_, run_underlying ht, run_sizeOf hs, Builtin.lenOf, Builtin.firstCells, hnc, storeCells]

theorem Cls.grew {w w' : World} {i : Nat} {v v' : Value} {e : TypeId} {k : Nat} {rows rows' : List (List Value)} (h : Cls w0 own m w) (hi : m[i]? = some (.sl v e k rows)) (hdr : w.drawn ≤ w'.drawn) (hg : w.grownBy w' v.ownBlock)
    (hb : v'.ownBlock = v.ownBlock ∨ v'.ownBlock = some w.heap.size) (hy : (As.sl v' e k rows').holds w') : Cls w0 own (.sl v' e k rows' :: m.eraseIdx i) w' := by
  obtain ⟨hil, hxi⟩ := List.getElem?_eq_some_iff.1 hi
  have hp : m.Perm (.sl v e k rows :: m.eraseIdx i) := by
    have : ∀ (l : List As) (j : Nat) (h : j < l.length), l.Perm (l[j] :: l.eraseIdx j) := by
      intro l
      induction l with
      | nil => intro j h; simp at h
      | cons q l ih =>
        intro j h
        cases j with
        | zero => simp
        | succ j => simp only [List.getElem_cons_succ, List.eraseIdx_cons_succ]; exact ((ih j (by simpa using h)).cons q).trans (.swap _ _ _)
    have := this m i hil
    rwa [hxi] at this
  have h' := h.perm hp.symm
  have hnd := h'.nodup
  rw [List.flatMap_cons, List.nodup_append] at hnd
  obtain ⟨hn1, hn2, hn3⟩ := hnd
  refine ⟨hg.os.trans h.os, hg.tape.trans h.tape, hg.output.trans h.output, h.dr.trans (.of hdr), Nat.le_trans h.size hg.size, fun q hq ho => ?_, ?_, fun x hx => ?_⟩
  · rw [hg.block q (Nat.lt_of_lt_of_le hq h.size), h.old q hq ho]
    intro hv
    have := (h'.mine _ (List.mem_cons_self)).2 q (by simp [As.foot, ← hv])
    rcases this with h1 | h1
    · omega
    · exact ho h1
  · rw [List.flatMap_cons, List.nodup_append]
    refine ⟨by cases hv : v'.ownBlock <;> simp [As.foot, hv], hn2, fun a ha b hb' heq => ?_⟩
    subst heq
    simp only [As.foot, Option.mem_toList] at ha
    rcases hb with hb | hb
    · exact hn3 a (by simp [As.foot, ← hb, ha]) a hb' rfl
    · rw [hb] at ha
      injection ha with ha
      have := (h'.sublist (List.sublist_cons_self _ _)).foot_lt a hb'
      omega
  · rcases List.mem_cons.1 hx with rfl | hx
    · refine ⟨hy, fun b hb' => ?_⟩
      simp only [As.foot, Option.mem_toList] at hb'
      rcases hb with hb | hb
      · exact (h'.mine _ (List.mem_cons_self)).2 b (by simp [As.foot, ← hb, hb'])
      · rw [hb] at hb'
        injection hb' with hb'
        exact .inl (hb' ▸ h.size)
    · have hxm := h'.mine x (List.mem_cons_of_mem _ hx)
      refine ⟨As.holds_congr hxm.1 fun b hb' => ?_, hxm.2⟩
      refine hg.block b (As.holds_lt hxm.1 b hb') fun heq => ?_
      exact hn3 b (by simp [As.foot, ← heq]) b (List.mem_flatMap.2 ⟨x, hx, hb'⟩) rfl

/-- append: what is in hand grows by what can be read there. -/
theorem L.append {x y : Operand} {i : Nat} {v u : Value} {e : TypeId} {k by' : Nat} {rows more : List (List Value)} {tx : TypeId} (hd : Nat.blt d n = true) (hu : P.underlying tx = some (.slice e)) (he : elemB P e k by' = true) (hx : val fs x = some v) (hy : val fs y = some u)
    (hm : m[i]? = some (.sl v e k rows)) (hB : ∀ w, Cls w0 own m w → At w u k more) (hp : Plain more) (hl : rows.length + more.length ≤ maxLen) (hb : (rows.length + more.length) * by' ≤ 140737488355328)
    (next : ∀ v', L P ops Q n (Cls w0 own (.sl v' e k (rows ++ more) :: m.eraseIdx i)) rest ((d, v') :: fs)) :
    L P ops Q n (Cls w0 own m) (⟨some d, .call ⟨.builtin .append, #[x, y], #[tx, tx]⟩, t, pos, af, none⟩ :: rest) fs := by
  refine L.runs (R := fun v' w' => Cls w0 own (.sl v' e k (rows ++ more) :: m.eraseIdx i) w') hd (fun a w hs hw => ?_) next
  obtain ⟨inf, z, hi, hz, hsz, hby, hzs, hk⟩ := elemB_out he
  have hown := hw.get hm
  have hBw := hB w hw
  have key : ∃ v' w', (Builtin.append_ #[tx, tx] t #[v, u]).run P w = .ok v' w' ∧ w'.ownsRow 0 e k v' (rows.length + more.length) (rows.flatten ++ more.flatten) ∧ w.grownBy w' v.ownBlock ∧ (v'.ownBlock = v.ownBlock ∨ v'.ownBlock = some w.heap.size) := by
    rcases hBw.shape with ⟨rfl, rfl⟩ | ⟨ad, cap, rfl, _, _⟩
    · refine ⟨v, w, run_append_nil_src 0 tx t e k hu (by simp [szB, hi, hsz]) hown.2, by simpa using hown.2, ⟨rfl, rfl, rfl, Nat.le_refl _, fun _ _ _ => rfl⟩, .inl rfl⟩
    · obtain ⟨v', w', h1, h2, h3, _, h5⟩ := run_append_own_at (P := P) w 0 tx t e inf z k by' hu hi hz hsz hby hzs hk v rows.length rows.flatten hown.2 ad more.length cap more.flatten hBw.flat
        (by simpa [adr] using hBw.flat_cell hk) (fun u' hu' => by obtain ⟨r, hr, hur⟩ := List.mem_flatten.1 hu'; exact hp r hr u' hur) hl hb (Nat.zero_le _)
      exact ⟨v', w', h1, h2, h3, h5⟩
  obtain ⟨v', w', h1, h2, h3, h4⟩ := key
  refine ⟨v', w', ?_, hw.grew hm (run_drawn _ h1) h3 h4 ⟨?_, by simpa using h2⟩⟩
  · simp only [execOp, resolve, List.map_toArray, List.map_cons, List.map_nil, hs.eval hx, hs.eval hy]
    simp [invoke, builtin, h1]
  · intro r hr
    rcases List.mem_append.1 hr with hr | hr
    · exact hown.1 r hr
    · exact hBw.len r hr

/-! ### Literals -/
def sv (b n : Nat) : Value := .slice (some ⟨b, 0, none⟩) n n
theorem Cls.allocSl {w : World} (h : Cls w0 own m w) (e : TypeId) (k : Nat) (rows : List (List Value)) (hr : ∀ r ∈ rows, r.length = k) (hl : rows.flatten.length = rows.length * k) (hm : rows.length ≤ maxLen) :
    Cls w0 own (.sl (sv w.heap.size rows.length) e k rows :: m) (w.alloc (.cells rows.flatten.toArray e)) := by
  have h1 := h.alloc rows.flatten e
  refine ⟨h1.os, h1.tape, h1.output, h1.dr, h1.size, h1.old, h1.nodup, fun x hx => ?_⟩
  rcases List.mem_cons.1 hx with rfl | hx
  · refine ⟨⟨hr, hl, .inr ⟨w.heap.size, rows.length, rows.flatten.toArray, rfl, Nat.zero_le _, (h1.mine _ (List.mem_cons_self)).1, Nat.le_refl _, hm, by simp [hl], by rw [List.toList_toArray, ← hl, List.take_length]⟩⟩, fun b hb => (h1.mine _ (List.mem_cons_self)).2 b hb⟩
  · exact h1.mine x (List.mem_cons_of_mem _ hx)

theorem fill_one {k : Nat} {z : Array Value} {v : Value} (hz : z.size = k) (hv : v.cells.size = k) : Instr.fill (fun i => some (i * k, k)) z [(0, v)] = some v.cells := by
  subst hv
  have key : ∀ (l : List Value) (i : Nat) (z : Array Value), i + l.length ≤ z.size → (l.zipIdx i).foldl (fun cs (x : Value × Nat) => cs.setIfInBounds x.2 x.1) z = (z.toList.take i ++ l ++ z.toList.drop (i + l.length)).toArray := by
    intro l
    induction l with
    | nil => intro i z _; simp
    | cons x l ih =>
      intro i z hl
      simp only [List.zipIdx_cons, List.foldl_cons]
      rw [ih (i + 1) _ (by simp at hl ⊢; omega)]
      simp only [List.length_cons] at hl
      apply Array.ext'
      simp only [Array.toList_setIfInBounds]
      rw [List.take_set, List.drop_set_of_lt (by omega)]
      have : i < z.toList.length := by simp; omega
      rw [List.take_succ_eq_append_getElem this, List.set_append]
      simp [show min i z.size = i by omega, show i + 1 + l.length = i + (l.length + 1) by omega]
  have h := key v.cells.toList 0 z (by simp [hz])
  simp only [Instr.fill, Nat.zero_mul, Nat.zero_add]
  rw [if_neg (by simp; omega)]
  have h2 : v.cells.zipIdx.foldl (fun cs (x : Value × Nat) => cs.setIfInBounds x.2 x.1) z = v.cells := by
    rw [← Array.foldl_toList, Array.toList_zipIdx]
    rw [h]
    apply Array.ext'
    simp [List.drop_eq_nil_of_le (show z.toList.length ≤ v.cells.size by simp [hz])]
  exact congrArg some h2
theorem elemB_run {e : TypeId} {k by' : Nat} (he : elemB P e k by' = true) : ∃ z : Value, z.cells.size = k ∧ 0 < k ∧ (∀ w, (sizeOf e).run P w = .ok k w) ∧ (∀ w, (zeroValue e).run P w = .ok z w) ∧ (∀ w, ((typeInfo e).run P w).andThen (fun i w => .ok i.bytes w) = .ok by' w) := by
  obtain ⟨inf, z, hi, hz, hsz, hby, hzs, hk⟩ := elemB_out he
  exact ⟨z, hzs, hk, fun w => run_sizeOf (by simp [szB, hi, hsz]) w, fun w => by simp [zeroValue, typeInfo, hi, hz], fun w => by simp [typeInfo, hi, hby]⟩

/-- A slice of one element, as append lays it. -/
theorem L.lit1 {x : Operand} {v : Value} {e tx : TypeId} {k by' : Nat} {r : List Value} (hd : Nat.blt d n = true) (hu : P.underlying tx = some (.slice e)) (he : elemB P e k by' = true) (hk16 : Nat.ble k 1000 = true) (hx : val fs x = some v) (hr : v.cells.toList = r) (hk : r.length = k)
    (next : ∀ b, L P ops Q n (Cls w0 own (.sl (sv b 1) e k [r] :: m)) rest ((d, sv b 1) :: fs)) : L P ops Q n (Cls w0 own m) (⟨some d, .buildSlice tx 1 #[(0, x)], t, pos, af, none⟩ :: rest) fs :=
  L.fresh (val' := fun b => sv b 1) hd (fun a w hs hw => by
    obtain ⟨z, hzs, hk0, h1, h2, _⟩ := elemB_run he
    have hvs : v.cells.size = k := by rw [← hk, ← hr]; simp
    have hk' : k ≤ 1000 := by simpa using hk16
    refine ⟨w.heap.size, _, ?_, hw.allocSl e k [r] (by simp [hk]) (by simp [hk]) (by simp [maxLen])⟩
    have hf := fill_one (k := k) (z := (Array.range k).map fun i => z.cells[i % z.cells.size]!) (v := v) (by simp) hvs
    simp only [execOp, List.map_toArray, List.map_cons, List.map_nil, hs.eval hx]
    simp only [Instr.buildSlice, Sem.run_bind, run_underlying hu, Result.andThen, h1, Nat.one_mul]
    rw [if_neg (by omega)]
    simp only [Sem.run_bind, Sem.run_pure, Result.andThen, show ¬ k = 0 by omega, if_false, h2, hf]
    simp [newRow, sv, ← hr]) next

end Go.S
