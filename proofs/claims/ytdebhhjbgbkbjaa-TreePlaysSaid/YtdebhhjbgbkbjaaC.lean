/-
  Elements written, slices made and cut, function values.
  Conditions: none.
-/
import Derived.Test.YtdebhhjbgbkbjaaB
namespace Go.S
variable {P : Program} {Q : Exit → Act → World → Prop} {n : Nat} {fs : Fr} {t : TypeId} {ops : Array Oper} {rest : List Oper} {d : Nat} {pos : String} {af : Array Edge}
variable {w0 : World} {own : List Nat} {m : List As}

theorem flatten_set {k : Nat} : ∀ (rows : List (List Value)) (i j : Nat) (r : List Value) (u : Value), (∀ r ∈ rows, r.length = k) → rows[i]? = some r → j < k → (rows.set i (r.set j u)).flatten = rows.flatten.set (i * k + j) u
  | [], i, j, r, u, _, h, _ => by simp at h
  | q :: rows, 0, j, r, u, hl, h, hj => by
    simp only [List.getElem?_cons_zero, Option.some.injEq] at h
    subst h
    have hq := hl q (by simp)
    simp only [List.set_cons_zero, List.flatten_cons, Nat.zero_mul, Nat.zero_add]
    rw [List.set_append, if_pos (by omega)]
  | q :: rows, i + 1, j, r, u, hl, h, hj => by
    have hq : q.length = k := hl q (by simp)
    simp only [List.getElem?_cons_succ] at h
    simp only [List.set_cons_succ, List.flatten_cons]
    rw [flatten_set rows i j r u (fun r hr => hl r (by simp [hr])) h hj, List.set_append, if_neg (by rw [hq, Nat.succ_mul]; omega), hq, show (i + 1) * k + j - k = i * k + j by rw [Nat.succ_mul]; omega]

theorem madeRows (z : Array Value) (l k : Nat) (hz : z.size = k) (hk : 0 < k) : ((Array.range (l * k)).map (z[· % z.size]!)).toList = (List.replicate l z.toList).flatten := by
  apply List.ext_getElem?
  intro j
  by_cases hj : j < l * k
  · have h1 : j / k < l := (Nat.div_lt_iff_lt_mul hk).2 hj
    have h2 : j % k < z.toList.length := by simp [hz]; exact Nat.mod_lt _ hk
    have hf := flatten_get (k := k) (List.replicate l z.toList) (j / k) (j % k) z.toList (z.toList[j % k]'h2) (by intro r hr; rw [List.mem_replicate] at hr; rw [hr.2]; simp [hz]) (by simp [h1]) (List.getElem?_eq_getElem h2)
    have e : j / k * k + j % k = j := by rw [Nat.mul_comm]; exact Nat.div_add_mod j k
    rw [e] at hf
    rw [hf]
    have h3 : j % k < z.size := by simpa using h2
    simp [hj, hz, getElem!_pos z (j % k) h3]
  · rw [List.getElem?_eq_none (by simp; omega), List.getElem?_eq_none (by simp [hz]; omega)]

/-! ### A slice cut: what can be read behind it -/
def cutv (v : Value) (h : Nat) : Value := match v with
  | .slice a _ c => .slice a h c
  | v => v
def dropv (v : Value) (l k : Nat) : Value := match v with
  | .slice a len c => .slice (if c - l = 0 then a else a.map (·.add (l * k))) (len - l) (c - l)
  | v => v
theorem At.take {w : World} {v : Value} {k : Nat} {rows : List (List Value)} (h : At w v k rows) (j : Nat) (hj : j ≤ rows.length) : At w (cutv v j) k (rows.take j) := by
  refine ⟨?_, fun r hr => h.len r (List.mem_of_mem_take hr), fun i r q x h1 h2 => ?_⟩
  · rcases h.shape with ⟨rfl, rfl⟩ | ⟨a, cap, rfl, h1, h2⟩
    · have : j = 0 := by simpa using hj
      subst this
      exact .inl ⟨rfl, by simp⟩
    · refine .inr ⟨a, cap, ?_, ?_, h2⟩
      · simp [cutv, List.length_take, Nat.min_eq_left hj]
      · simp [List.length_take]; omega
  · have hi : rows[i]? = some r := by
      rw [List.getElem?_take] at h1
      split at h1
      · exact h1
      · cases h1
    have := h.cell i r q x hi h2
    rcases h.shape with ⟨rfl, rfl⟩ | ⟨a, cap, rfl, _, _⟩
    · simp at hi
    · exact this
theorem At.drop {w : World} {v : Value} {k : Nat} {rows : List (List Value)} (h : At w v k rows) (l : Nat) (hl : l ≤ rows.length) : At w (dropv v l k) k (rows.drop l) := by
  refine ⟨?_, fun r hr => h.len r (List.mem_of_mem_drop hr), fun i r q x h1 h2 => ?_⟩
  · rcases h.shape with ⟨rfl, rfl⟩ | ⟨a, cap, rfl, h1, h2⟩
    · exact .inl ⟨by simp [dropv], by simp⟩
    · by_cases hc : cap - l = 0
      · exact .inr ⟨a, 0, by simp [dropv, hc], by simp; omega, by simp [maxLen]⟩
      · exact .inr ⟨a.add (l * k), cap - l, by simp [dropv, hc], by simp; omega, by omega⟩
  · rw [List.getElem?_drop] at h1
    have := h.cell (l + i) r q x h1 h2
    rcases h.shape with ⟨rfl, rfl⟩ | ⟨a, cap, rfl, hc, _⟩
    · simp at h1
    · have hlt := (List.getElem?_eq_some_iff.1 h1).1
      have hne : ¬ (cap - l = 0) := by omega
      simp only [dropv, hne, if_false, adr, Option.map_some] at this ⊢
      rw [add_add, ← Nat.add_assoc, ← Nat.add_mul]
      exact this
theorem Y.cutA {C : World → Prop} {x y : Operand} {v : Value} {e tx : TypeId} {k : Nat} {rows : List (List Value)} {ik : IntKind} {h : Int} (hu : P.underlying tx = some (.slice e)) (hs : szB P e k = true) (hx : val fs x = some v) (hy : val fs y = some (.int ik h)) (hA : ∀ w, C w → At w v k rows) (h0 : 0 ≤ h) (h1 : h ≤ rows.length) :
    Y P (.slice tx x none (some y) none) t n fs C (cutv v h.toNat) :=
  Y.of fun d pos af g s w hsl hw => by
    simp only [execOp, hsl.eval hx, hsl.eval hy, Option.map_some, Option.map_none]
    rcases (hA w hw).shape with ⟨rfl, rfl⟩ | ⟨a, cap, rfl, hc, _⟩
    · have hz : h = 0 := by simp at h1; omega
      subst hz
      have hr := run_slice_h (P := P) w tx none 0 0 (elemOf_slice hu) ik 0 (by omega) (by omega)
      rw [elem_slice hu, run_sizeOf hs] at hr
      simp [run_sliceAt_slice w tx _ _ _ _ (elemOf_slice hu), hr, sliced, cutv]
    · have hr := run_slice_h (P := P) w tx (some a) rows.length cap (elemOf_slice hu) ik h h0 (by omega)
      rw [elem_slice hu, run_sizeOf hs] at hr
      simp [run_sliceAt_slice w tx _ _ _ _ (elemOf_slice hu), hr, sliced, cutv]
      intro _
      simp [Addr.add]
theorem Y.dropA {C : World → Prop} {x y : Operand} {v : Value} {e tx : TypeId} {k : Nat} {rows : List (List Value)} {ik : IntKind} {h : Int} (hu : P.underlying tx = some (.slice e)) (hs : szB P e k = true) (hx : val fs x = some v) (hy : val fs y = some (.int ik h)) (hA : ∀ w, C w → At w v k rows) (h0 : 0 ≤ h) (h1 : h ≤ rows.length) :
    Y P (.slice tx x (some y) none none) t n fs C (dropv v h.toNat k) :=
  Y.of fun d pos af g s w hsl hw => by
    simp only [execOp, hsl.eval hx, hsl.eval hy, Option.map_some, Option.map_none]
    rcases (hA w hw).shape with ⟨rfl, rfl⟩ | ⟨a, cap, rfl, hc, _⟩
    · have hz : h = 0 := by simp at h1; omega
      subst hz
      have hr := run_slice_l (P := P) w tx none 0 0 (elemOf_slice hu) ik 0 (by omega) (by omega)
      rw [elem_slice hu, run_sizeOf hs] at hr
      simp [run_sliceAt_slice w tx _ _ _ _ (elemOf_slice hu), hr, sliced, dropv]
    · have hr := run_slice_l (P := P) w tx (some a) rows.length cap (elemOf_slice hu) ik h h0 (by omega)
      rw [elem_slice hu, run_sizeOf hs] at hr
      have e1 : (cap = h.toNat) = (cap - h.toNat = 0) := by apply propext; omega
      simp [run_sliceAt_slice w tx _ _ _ _ (elemOf_slice hu), hr, sliced, dropv, e1]

theorem At.one {w : World} {v : Value} {k : Nat} {rows : List (List Value)} (h : At w v k rows) : v.oneCell' = true := by
  rcases h.shape with ⟨rfl, _⟩ | ⟨_, _, rfl, _⟩ <;> rfl
/-! ### Function values -/
theorem Y.func {C : World → Prop} {f : FuncId} {xs : List Operand} {vs : List Value} (hx : vals fs xs = some vs) : Y P (.makeFunc (.func f) #[] xs.toArray) t n fs C (.func (.func f) #[] vs.toArray) :=
  Y.of fun d pos af g s w hs hw => by
    have h1 := hs.evals hx
    simp only [execOp, List.map_toArray, h1]
    simp [Instr.makeFunc]
/-! ### More -/
/-- A slice of one element of one cell; of one struct. -/
theorem L.litOne {x : Operand} {v : Value} {e tx : TypeId} {by' : Nat} (hd : Nat.blt d n = true) (hu : P.underlying tx = some (.slice e)) (he : elemB P e 1 by' = true) (hx : val fs x = some v) (hv : v.cells = #[v])
    (next : ∀ b, L P ops Q n (Cls w0 own (.sl (sv b 1) e 1 [[v]] :: m)) rest ((d, sv b 1) :: fs)) : L P ops Q n (Cls w0 own m) (⟨some d, .buildSlice tx 1 #[(0, x)], t, pos, af, none⟩ :: rest) fs :=
  L.lit1 hd hu he rfl hx (by rw [hv]) rfl next
theorem L.to {C D : World → Prop} {l : List Oper} (hd : ∀ w, C w → D w) (h : L P ops Q n D l fs) : L P ops Q n C l fs := fun a w hs hc => h a w hs (hd w hc)
theorem W.to {C D : World → Prop} {c : Code} (hd : ∀ w, C w → D w) (h : W P Q n D c fs) : W P Q n C c fs := fun a w hs hc => h a w hs (hd w hc)
end Go.S
