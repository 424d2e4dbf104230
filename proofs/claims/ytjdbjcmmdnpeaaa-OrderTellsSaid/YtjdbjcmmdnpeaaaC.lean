/-
  Elements written, slices made and cut, function values.
  Conditions: none.
-/
import Derived.Test.YtjdbjcmmdnpeaaaB
namespace Go.S
variable {P : Program} {Q : Exit → Act → World → Prop} {n : Nat} {fs : Fr} {t : TypeId} {ops : Array Oper} {rest : List Oper} {d : Nat} {pos : String} {af : Array Edge}
variable {w0 : World} {own : List Nat} {m : List As}

theorem flatten_set {k : Nat} : ∀ (rows : List (List Value)) (i j : Nat) (r : List Value) (u : Value), (∀ r ∈ rows, r.length = k) → rows[i]? = some r → j < k → (rows.set i (r.set j u)).flatten = rows.flatten.set (i * k + j) u
  | [], i, j, r, u, _, h, _ => by simp at h
  | q :: rows, 0, j, r, u, hl, h, hj => by
    simp only [List.getElem?_cons_zero, Option.some.injEq] at h
    subst h
    have hq := hl q (by simp)
    simp only [List.set_cons_zero, List.flatten_cons, Nat.zero_mul, Nat.zero_add]
    rw [List.set_append, if_pos (by omega)]
  | q :: rows, i + 1, j, r, u, hl, h, hj => by
    have hq : q.length = k := hl q (by simp)
    simp only [List.getElem?_cons_succ] at h
    simp only [List.set_cons_succ, List.flatten_cons]
    rw [flatten_set rows i j r u (fun r hr => hl r (by simp [hr])) h hj, List.set_append, if_neg (by rw [hq, Nat.succ_mul]; omega), hq, show (i + 1) * k + j - k = i * k + j by rw [Nat.succ_mul]; omega]

/-- One cell of one element of what is in hand. -/
theorem L.storeSl {x y : Operand} {q i j k : Nat} {v u : Value} {e te : TypeId} {rows : List (List Value)} {r : List Value} (hs : szB P te 1 = true) (hx : val fs x = some (el v (i * k + j))) (hy : val fs y = some u) (hu : u.cells = #[u]) (h1 : u.oneCell' = true)
    (hm : m[q]? = some (.sl v e k rows)) (hr : rows[i]? = some r) (hj : j < k) (next : L P ops Q n (Cls w0 own (m.set q (.sl v e k (rows.set i (r.set j u))))) rest fs) :
    L P ops Q n (Cls w0 own m) (⟨none, .store te x y, t, pos, af, none⟩ :: rest) fs :=
  L.runsNone (fun a w hsl hw => by
    obtain ⟨hrl, hl, hown⟩ := hw.get hm
    rcases hown with ⟨rfl, hn⟩ | ⟨g, cap, cur, rfl, hg, hh, hnc, hcm, hcs, htake⟩
    · have : rows = [] := List.length_eq_zero_iff.1 hn
      subst this
      simp at hr
    · have hi : i < rows.length := (List.getElem?_eq_some_iff.1 hr).1
      have hb : i * k + j < rows.length * k := by
        have : (i + 1) * k ≤ rows.length * k := Nat.mul_le_mul_right k hi
        rw [Nat.succ_mul] at this; omega
      have hc : rows.length * k ≤ cap * k := Nat.mul_le_mul_right k hnc
      have hlen : i * k + j < cur.toList.length := by simp; omega
      have hh' : w.heap[g]? = some (.cells cur.toList.toArray e (0, 0)) := by simpa using hh
      obtain ⟨w', h2, h3, h4⟩ := run_storeCells (P := P) g e (i * k + j) [u] 0 cur.toList w hh' (by simp at hlen ⊢; omega) (by simpa using h1)
      refine ⟨w', ?_, ?_⟩
      · simp only [execOp, hsl.eval hx, hsl.eval hy]
        simp only [Instr.storeAt, Instr.sureAddr, el, adr, Addr.add_lit, Sem.run_bind, Sem.run_pure, Result.andThen, storeVar, run_sizeOf hs, hu]
        simp [h2]
      · refine hw.turn hm rfl h4.os h4.tape h4.output h4.size (Nat.le_of_eq h4.drawn.symm) (fun p hp => h4.rest p (by simpa [As.foot, Value.ownBlock] using hp)) ⟨?_, ?_, .inr ⟨g, cap, (over cur.toList (i * k + j + 0) [u]).toArray, by simp, hg, h3, by simpa using hnc, hcm, by simp [over, hcs], ?_⟩⟩
        · intro r' hr'
          rcases List.mem_or_eq_of_mem_set hr' with h | h
          · exact hrl r' h
          · subst h
            simp [hrl r (List.mem_of_getElem? hr)]
        · rw [flatten_set rows i j r u hrl hr hj]; simp [hl]
        · rw [flatten_set rows i j r u hrl hr hj, ← htake]
          simp only [over, List.length_set, Nat.add_zero]
          rw [List.take_set]) next

theorem L.storeSl1 {x y : Operand} {q i : Nat} {v u : Value} {e te : TypeId} {rows : List (List Value)} (hs : szB P te 1 = true) (hx : val fs x = some (el v (i * 1))) (hy : val fs y = some u) (hu : u.cells = #[u]) (h1 : u.oneCell' = true)
    (hm : m[q]? = some (.sl v e 1 rows)) (hi : i < rows.length) (hw1 : ∀ r ∈ rows, r.length = 1) (next : L P ops Q n (Cls w0 own (m.set q (.sl v e 1 (rows.set i [u])))) rest fs) :
    L P ops Q n (Cls w0 own m) (⟨none, .store te x y, t, pos, af, none⟩ :: rest) fs := by
  have hr : rows[i]? = some rows[i] := List.getElem?_eq_getElem hi
  have hlen : (rows[i]).length = 1 := hw1 _ (List.getElem_mem hi)
  refine L.storeSl (j := 0) hs (by simpa using hx) hy hu h1 hm hr (by omega) ?_
  have : (rows[i]).set 0 u = [u] := by
    match h : rows[i], hlen with
    | [z], _ => rfl
  rw [this]
  exact next

theorem madeRows (z : Array Value) (l k : Nat) (hz : z.size = k) (hk : 0 < k) : ((Array.range (l * k)).map (z[· % z.size]!)).toList = (List.replicate l z.toList).flatten := by
  apply List.ext_getElem?
  intro j
  by_cases hj : j < l * k
  · have h1 : j / k < l := (Nat.div_lt_iff_lt_mul hk).2 hj
    have h2 : j % k < z.toList.length := by simp [hz]; exact Nat.mod_lt _ hk
    have hf := flatten_get (k := k) (List.replicate l z.toList) (j / k) (j % k) z.toList (z.toList[j % k]'h2) (by intro r hr; rw [List.mem_replicate] at hr; rw [hr.2]; simp [hz]) (by simp [h1]) (List.getElem?_eq_getElem h2)
    have e : j / k * k + j % k = j := by rw [Nat.mul_comm]; exact Nat.div_add_mod j k
    rw [e] at hf
    rw [hf]
    have h3 : j % k < z.size := by simpa using h2
    simp [hj, hz, getElem!_pos z (j % k) h3]
  · rw [List.getElem?_eq_none (by simp; omega), List.getElem?_eq_none (by simp [hz]; omega)]

/-- make([]T, l) -/
theorem L.make {x y : Operand} {e tx : TypeId} {ik ik' : IntKind} {l k by' : Nat} {zs : List Value} (hd : Nat.blt d n = true) (hu : P.underlying tx = some (.slice e)) (he : elemB P e k by' = true) (hz : zeroB P e = some zs) (hx : val fs x = some (.int ik (l : Nat))) (hy : val fs y = some (.int ik' (l : Nat)))
    (hl : l ≤ 1000000) (hb : by' ≤ 1000000) (next : ∀ b, L P ops Q n (Cls w0 own (.sl (sv b l) e k (List.replicate l zs) :: m)) rest ((d, sv b l) :: fs)) :
    L P ops Q n (Cls w0 own m) (⟨some d, .makeSlice tx x y, t, pos, af, none⟩ :: rest) fs :=
  L.fresh (val' := fun b => sv b l) hd (fun a w hs hw => by
    obtain ⟨inf, z, hi, hz', hsz, hby, hzs, hk⟩ := elemB_out he
    have hzz : z.cells.toList = zs := by
      unfold zeroB at hz
      simpa [hi, hz'] using hz
    have hzl : zs.length = k := by rw [← hzz]; simp [hzs]
    have hwr : IntKind.i64.wrap (l : Int) = l := i64_in (by omega) (by omega)
    have hmul : l * by' ≤ 1000000 * 1000000 := Nat.mul_le_mul hl hb
    have hmulI : ((by' : Int) * (l : Int)) = ((l * by' : Nat) : Int) := by rw [Nat.mul_comm]; push_cast; rfl
    have hflat := hw.allocSl e k (List.replicate l zs) (by intro r hr; rw [List.mem_replicate] at hr; rw [hr.2, hzl]) (by simp [hzl]) (by simp [maxLen]; omega)
    simp only [List.length_replicate] at hflat
    refine ⟨w.heap.size, _, ?_, hflat⟩
    have hr : (Instr.makeSlice tx (.int ik (l : Nat)) (.int ik' (l : Nat))).run P w = .ok (sv w.heap.size l) (w.alloc (.cells (List.replicate l zs).flatten.toArray e)) := by
      have hrows := madeRows z.cells l k hzs hk
      rw [hzz] at hrows
      have hrows' : (Array.range (l * k)).map (z.cells[· % z.cells.size]!) = (List.replicate l zs).flatten.toArray := by
        rw [← hrows]
      have h1 : ¬ (281474976710656 < (by' : Int) * (l : Int)) := by rw [hmulI]; omega
      have hszb : szB P e k = true := by simp [szB, hi, hsz]
      have hneg : ¬ ((l : Int) < 0) := by omega
      by_cases h0 : l * k = 0
      · have hl0 : l = 0 := by
          rcases Nat.mul_eq_zero.1 h0 with h | h
          · exact h
          · omega
        have hfl : (List.replicate l zs).flatten = [] := by simp [hl0]
        simp [Instr.makeSlice, run_underlying hu, asInt, asIntOf, typeInfo, hi, hby, hwr, h1, hneg, askRoom, run_sizeOf hszb, h0, newRow, sv, hfl, show Array.range 0 = #[] from rfl]
      · simp [Instr.makeSlice, run_underlying hu, asInt, asIntOf, typeInfo, hi, hby, hwr, h1, hneg, askRoom, run_sizeOf hszb, h0, zeroValue, hz', newRow, sv, hrows']
    simp only [execOp, hs.eval hx, hs.eval hy]
    simp [hr]) next

/-! ### A slice cut: what can be read behind it -/
def cutv (v : Value) (h : Nat) : Value := match v with
  | .slice a _ c => .slice a h c
  | v => v
def dropv (v : Value) (l k : Nat) : Value := match v with
  | .slice a len c => .slice (if c - l = 0 then a else a.map (·.add (l * k))) (len - l) (c - l)
  | v => v
theorem At.take {w : World} {v : Value} {k : Nat} {rows : List (List Value)} (h : At w v k rows) (j : Nat) (hj : j ≤ rows.length) : At w (cutv v j) k (rows.take j) := by
  refine ⟨?_, fun r hr => h.len r (List.mem_of_mem_take hr), fun i r q x h1 h2 => ?_⟩
  · rcases h.shape with ⟨rfl, rfl⟩ | ⟨a, cap, rfl, h1, h2⟩
    · have : j = 0 := by simpa using hj
      subst this
      exact .inl ⟨rfl, by simp⟩
    · refine .inr ⟨a, cap, ?_, ?_, h2⟩
      · simp [cutv, List.length_take, Nat.min_eq_left hj]
      · simp [List.length_take]; omega
  · have hi : rows[i]? = some r := by
      rw [List.getElem?_take] at h1
      split at h1
      · exact h1
      · cases h1
    have := h.cell i r q x hi h2
    rcases h.shape with ⟨rfl, rfl⟩ | ⟨a, cap, rfl, _, _⟩
    · simp at hi
    · exact this
theorem At.drop {w : World} {v : Value} {k : Nat} {rows : List (List Value)} (h : At w v k rows) (l : Nat) (hl : l ≤ rows.length) : At w (dropv v l k) k (rows.drop l) := by
  refine ⟨?_, fun r hr => h.len r (List.mem_of_mem_drop hr), fun i r q x h1 h2 => ?_⟩
  · rcases h.shape with ⟨rfl, rfl⟩ | ⟨a, cap, rfl, h1, h2⟩
    · exact .inl ⟨by simp [dropv], by simp⟩
    · by_cases hc : cap - l = 0
      · exact .inr ⟨a, 0, by simp [dropv, hc], by simp; omega, by simp [maxLen]⟩
      · exact .inr ⟨a.add (l * k), cap - l, by simp [dropv, hc], by simp; omega, by omega⟩
  · rw [List.getElem?_drop] at h1
    have := h.cell (l + i) r q x h1 h2
    rcases h.shape with ⟨rfl, rfl⟩ | ⟨a, cap, rfl, hc, _⟩
    · simp at h1
    · have hlt := (List.getElem?_eq_some_iff.1 h1).1
      have hne : ¬ (cap - l = 0) := by omega
      simp only [dropv, hne, if_false, adr, Option.map_some] at this ⊢
      rw [add_add, ← Nat.add_assoc, ← Nat.add_mul]
      exact this
theorem Y.cutA {C : World → Prop} {x y : Operand} {v : Value} {e tx : TypeId} {k : Nat} {rows : List (List Value)} {ik : IntKind} {h : Int} (hu : P.underlying tx = some (.slice e)) (hs : szB P e k = true) (hx : val fs x = some v) (hy : val fs y = some (.int ik h)) (hA : ∀ w, C w → At w v k rows) (h0 : 0 ≤ h) (h1 : h ≤ rows.length) :
    Y P (.slice tx x none (some y) none) t n fs C (cutv v h.toNat) :=
  Y.of fun d pos af g s w hsl hw => by
    simp only [execOp, hsl.eval hx, hsl.eval hy, Option.map_some, Option.map_none]
    rcases (hA w hw).shape with ⟨rfl, rfl⟩ | ⟨a, cap, rfl, hc, _⟩
    · have hz : h = 0 := by simp at h1; omega
      subst hz
      have hr := run_slice_h (P := P) w tx none 0 0 (elemOf_slice hu) ik 0 (by omega) (by omega)
      rw [elem_slice hu, run_sizeOf hs] at hr
      simp [run_sliceAt_slice w tx _ _ _ _ (elemOf_slice hu), hr, sliced, cutv]
    · have hr := run_slice_h (P := P) w tx (some a) rows.length cap (elemOf_slice hu) ik h h0 (by omega)
      rw [elem_slice hu, run_sizeOf hs] at hr
      simp [run_sliceAt_slice w tx _ _ _ _ (elemOf_slice hu), hr, sliced, cutv]
      intro _
      simp [Addr.add]
theorem Y.dropA {C : World → Prop} {x y : Operand} {v : Value} {e tx : TypeId} {k : Nat} {rows : List (List Value)} {ik : IntKind} {h : Int} (hu : P.underlying tx = some (.slice e)) (hs : szB P e k = true) (hx : val fs x = some v) (hy : val fs y = some (.int ik h)) (hA : ∀ w, C w → At w v k rows) (h0 : 0 ≤ h) (h1 : h ≤ rows.length) :
    Y P (.slice tx x (some y) none none) t n fs C (dropv v h.toNat k) :=
  Y.of fun d pos af g s w hsl hw => by
    simp only [execOp, hsl.eval hx, hsl.eval hy, Option.map_some, Option.map_none]
    rcases (hA w hw).shape with ⟨rfl, rfl⟩ | ⟨a, cap, rfl, hc, _⟩
    · have hz : h = 0 := by simp at h1; omega
      subst hz
      have hr := run_slice_l (P := P) w tx none 0 0 (elemOf_slice hu) ik 0 (by omega) (by omega)
      rw [elem_slice hu, run_sizeOf hs] at hr
      simp [run_sliceAt_slice w tx _ _ _ _ (elemOf_slice hu), hr, sliced, dropv]
    · have hr := run_slice_l (P := P) w tx (some a) rows.length cap (elemOf_slice hu) ik h h0 (by omega)
      rw [elem_slice hu, run_sizeOf hs] at hr
      have e1 : (cap = h.toNat) = (cap - h.toNat = 0) := by apply propext; omega
      simp [run_sliceAt_slice w tx _ _ _ _ (elemOf_slice hu), hr, sliced, dropv, e1]

theorem At.one {w : World} {v : Value} {k : Nat} {rows : List (List Value)} (h : At w v k rows) : v.oneCell' = true := by
  rcases h.shape with ⟨rfl, _⟩ | ⟨_, _, rfl, _⟩ <;> rfl
theorem At.cells1 {w : World} {v : Value} {k : Nat} {rows : List (List Value)} (h : At w v k rows) : v.cells = #[v] := by
  rcases h.shape with ⟨rfl, _⟩ | ⟨_, _, rfl, _⟩ <;> rfl

/-! ### Function values -/
theorem Y.func {C : World → Prop} {f : FuncId} {xs : List Operand} {vs : List Value} (hx : vals fs xs = some vs) : Y P (.makeFunc (.func f) #[] xs.toArray) t n fs C (.func (.func f) #[] vs.toArray) :=
  Y.of fun d pos af g s w hs hw => by
    have h1 := hs.evals hx
    simp only [execOp, List.map_toArray, h1]
    simp [Instr.makeFunc]
theorem Y.callV {C : World → Prop} {x : Operand} {f : FuncId} {cap : List Value} {xs : List Operand} {ts : Array TypeId} {vs : List Value} {v : Value} (he : entB P f = true) (hf : val fs x = some (.func (.func f) #[] cap.toArray)) (hx : vals fs xs = some vs)
    (hc : ∀ w, C w → Calls P f (vs ++ cap).toArray w fun e w' => e = .returned v ∧ C w') : Y P (.call ⟨.value x, xs.toArray, ts⟩) t n fs C v := by
  intro d pos af g a w hs hw
  have h1 := hs.evals hx
  have : (execOp a.eval ⟨d, .call ⟨.value x, xs.toArray, ts⟩, t, pos, af, g⟩).run P w = .ok (.enter f (vs ++ cap).toArray) w := by
    simp only [execOp, resolve, List.map_toArray, h1, hs.eval hf]
    simp [Deferred.ofValue, invoke, run_call he]
  rw [this]
  exact ⟨rfl, hc w hw⟩
theorem Y.doesV {x : Operand} {f : FuncId} {cap : List Value} {xs : List Operand} {ts : Array TypeId} {vs : List Value} {v : Value} (he : entB P f = true) (hf : val fs x = some (.func (.func f) #[] cap.toArray)) (hx : vals fs xs = some vs)
    (hc : ∀ w, Cls w0 own m w → Does P f (vs ++ cap) w fun u _ => u = v) : Y P (.call ⟨.value x, xs.toArray, ts⟩) t n fs (Cls w0 own m) v :=
  Y.callV he hf hx fun w hw => Calls.mono (hc w hw) fun e w' ⟨u, m', he', hu, hcl⟩ => ⟨by rw [he', hu], (hw.call hcl).sublist (List.sublist_append_right _ _)⟩
/-! ### More -/
/-- A slice of one element of one cell; of one struct. -/
theorem L.litOne {x : Operand} {v : Value} {e tx : TypeId} {by' : Nat} (hd : Nat.blt d n = true) (hu : P.underlying tx = some (.slice e)) (he : elemB P e 1 by' = true) (hx : val fs x = some v) (hv : v.cells = #[v])
    (next : ∀ b, L P ops Q n (Cls w0 own (.sl (sv b 1) e 1 [[v]] :: m)) rest ((d, sv b 1) :: fs)) : L P ops Q n (Cls w0 own m) (⟨some d, .buildSlice tx 1 #[(0, x)], t, pos, af, none⟩ :: rest) fs :=
  L.lit1 hd hu he rfl hx (by rw [hv]) rfl next
theorem L.litAgg {x : Operand} {vs : List Value} {e tx : TypeId} {k by' : Nat} (hd : Nat.blt d n = true) (hu : P.underlying tx = some (.slice e)) (he : elemB P e k by' = true) (hk16 : Nat.ble k 1000 = true) (hx : val fs x = some (.agg vs.toArray)) (hk : vs.length = k)
    (next : ∀ b, L P ops Q n (Cls w0 own (.sl (sv b 1) e k [vs] :: m)) rest ((d, sv b 1) :: fs)) : L P ops Q n (Cls w0 own m) (⟨some d, .buildSlice tx 1 #[(0, x)], t, pos, af, none⟩ :: rest) fs :=
  L.lit1 hd hu he hk16 hx (by simp [Value.cells]) hk next
theorem Cls.oldCell {w : World} {a : Addr} {v : Value} (h : Cls w0 [] m w) (hc : w0.cell? a = some v) : w.cell? a = some v := by
  rw [World.cell?_of_block (w := w0)]
  · exact hc
  · exact h.old _ (World.block_lt_of_cell? w0 _ hc) (by simp)
theorem L.to {C D : World → Prop} {l : List Oper} (hd : ∀ w, C w → D w) (h : L P ops Q n D l fs) : L P ops Q n C l fs := fun a w hs hc => h a w hs (hd w hc)
theorem W.to {C D : World → Prop} {c : Code} (hd : ∀ w, C w → D w) (h : W P Q n D c fs) : W P Q n C c fs := fun a w hs hc => h a w hs (hd w hc)
theorem ints_len (l : List Int) : ∀ r ∈ ints l, r.length = 1 := by
  intro r hr
  simp only [ints, List.mem_map] at hr
  obtain ⟨x, _, rfl⟩ := hr
  rfl
theorem bools_len (l : List Bool) : ∀ r ∈ bools l, r.length = 1 := by
  intro r hr
  simp only [bools, List.mem_map] at hr
  obtain ⟨x, _, rfl⟩ := hr
  rfl
theorem ints_set (l : List Int) (i : Nat) (x : Int) : (ints l).set i [.int .i64 x] = ints (l.set i x) := by simp [ints, List.map_set, I]
theorem bools_set (l : List Bool) (i : Nat) (x : Bool) : (bools l).set i [.bool x] = bools (l.set i x) := by simp [bools, List.map_set, B]
theorem bools_append (a b : List Bool) : bools (a ++ b) = bools a ++ bools b := by simp [bools]
theorem bools_replicate (k : Nat) (b : Bool) : bools (List.replicate k b) = List.replicate k [.bool b] := by simp [bools, B]
theorem ints_replicate (k : Nat) (b : Int) : ints (List.replicate k b) = List.replicate k [.int .i64 b] := by simp [ints, I]
theorem take_get {α : Type} {l : List α} {i k : Nat} {x : α} (h : l[i]? = some x) (hi : i < k) : (l.take k)[i]? = some x := by rw [List.getElem?_take_of_lt hi]; exact h
end Go.S
