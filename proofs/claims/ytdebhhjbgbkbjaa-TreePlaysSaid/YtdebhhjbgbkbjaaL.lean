/-
  Arrays and slices written element by element; structs built; the models' words for them.
  Conditions: none.
-/
import Derived.Test.YtdebhhjbgbkbjaaE
import Derived.Laws.Tables
namespace Go.S
/-- An element of an array of n. -/
def idxA {α : Type} (n : Nat) (l : List α) (a : Int) : Option α := if a < n then idx l a else none
/-- An array's list, as long as it is to be. -/
def arrN {α : Type} (n : Nat) (l : List α) : Option (List α) := if l.length = n then some l else none
theorem over_flat {k : Nat} : ∀ (vs : List Value) (rows : List (List Value)) (i j : Nat) (r : List Value), (∀ r ∈ rows, r.length = k) → rows[i]? = some r → j + vs.length ≤ k → over rows.flatten (i * k + j) vs = (rows.set i (over r j vs)).flatten
  | [], rows, i, j, r, _, hr, _ => by
    obtain ⟨hi, he⟩ := List.getElem?_eq_some_iff.1 hr
    rw [over, over, ← he, List.set_getElem_self]
  | v :: vs, rows, i, j, r, hl, hr, hj => by
    obtain ⟨hi, he⟩ := List.getElem?_eq_some_iff.1 hr
    simp only [List.length_cons] at hj
    rw [over, over, ← flatten_set rows i j r v hl hr (by omega), show i * k + j + 1 = i * k + (j + 1) by omega]
    have hl' : ∀ r' ∈ rows.set i (r.set j v), r'.length = k := by
      intro r' h'
      rcases List.mem_or_eq_of_mem_set h' with h | h
      · exact hl r' h
      · subst h; simp [hl r (List.mem_of_getElem? hr)]
    rw [over_flat vs _ i (j + 1) (r.set j v) hl' (by simp [hi]) (by omega), List.set_set]
section
variable {P : Program} {Q : Exit → Act → World → Prop} {n : Nat} {fs : Fr} {t : TypeId} {ops : Array Oper} {rest : List Oper} {d : Nat} {pos : String} {af : Array Edge}
variable {w0 : World} {own : List Nat} {m : List As} {x y : Operand} {e te : TypeId} {q o i j k kk b : Nat} {v u : Value} {vs : List Value}

/-- Some cells of one element of what is in hand. -/
theorem L.storeSlN {rows : List (List Value)} {r : List Value} (hs : szB P te kk = true) (hx : val fs x = some (el v o)) (ho : o = i * k + j) (hy : val fs y = some u) (hu : u.cells.toList = vs) (hk : vs.length = kk) (h1 : ∀ u ∈ vs, u.oneCell' = true)
    (hm : m[q]? = some (.sl v e k rows)) (hr : rows[i]? = some r) (hj : j + kk ≤ k) (next : L P ops Q n (Cls w0 own (m.set q (.sl v e k (rows.set i (over r j vs))))) rest fs) :
    L P ops Q n (Cls w0 own m) (⟨none, .store te x y, t, pos, af, none⟩ :: rest) fs := by
  subst ho
  exact L.runsNone (fun a w hsl hw => by
    obtain ⟨hrl, hl, hown⟩ := hw.get hm
    rcases hown with ⟨rfl, hn⟩ | ⟨g, cap, cur, rfl, hg, hh, hnc, hcm, hcs, htake⟩
    · have : rows = [] := List.length_eq_zero_iff.1 hn
      subst this
      simp at hr
    · have hi : i < rows.length := (List.getElem?_eq_some_iff.1 hr).1
      have hb : i * k + j + vs.length ≤ rows.length * k := by
        have : (i + 1) * k ≤ rows.length * k := Nat.mul_le_mul_right k hi
        rw [Nat.succ_mul] at this; omega
      have hc : rows.length * k ≤ cap * k := Nat.mul_le_mul_right k hnc
      have hcl : cur.toList.length = cap * k := by simp [hcs]
      have hh' : w.heap[g]? = some (.cells cur.toList.toArray e (0, 0)) := by simpa using hh
      obtain ⟨w', h2, h3, h4⟩ := run_storeCells (P := P) g e (i * k + j) vs 0 cur.toList w hh' (by omega) h1
      have hsz : u.cells.size = kk := by rw [← hk, ← hu]; simp
      have hrj : (over r j vs).length = k := by rw [over_length]; exact hrl r (List.mem_of_getElem? hr)
      have hset : ∀ r' ∈ rows.set i (over r j vs), r'.length = k := by
        intro r' hr'
        rcases List.mem_or_eq_of_mem_set hr' with h | h
        · exact hrl r' h
        · subst h; exact hrj
      have hfl := over_flat vs rows i j r hrl hr (by omega)
      have htk : ∀ (us : List Value) (c : List Value) (z a : Nat), a + us.length ≤ z → (over c a us).take z = over (c.take z) a us := by
        intro us
        induction us with
        | nil => intro c z a _; rfl
        | cons p us ih => intro c z a h; simp only [List.length_cons] at h; rw [over, over, ih _ _ _ (by omega), List.take_set]
      refine ⟨w', ?_, ?_⟩
      · simp only [execOp, hsl.eval hx, hsl.eval hy]
        simp only [Instr.storeAt, Instr.sureAddr, el, adr, Addr.add_lit, Sem.run_bind, Sem.run_pure, Result.andThen, storeVar, run_sizeOf hs, hsz, hu]
        simp [h2]
      · refine hw.turn hm rfl h4.os h4.tape h4.output h4.size (Nat.le_of_eq h4.drawn.symm) (fun p hp => h4.rest p (by simpa [As.foot, Value.ownBlock] using hp)) ⟨hset, ?_, .inr ⟨g, cap, (over cur.toList (i * k + j + 0) vs).toArray, by simp, hg, h3, by simpa using hnc, hcm, by simp [over_length, hcs], ?_⟩⟩
        · rw [← hfl, over_length, hl]; simp
        · simp only [List.length_set, Nat.add_zero]
          rw [htk _ _ _ _ hb, ← hfl, ← htake]) next

section words
variable {α ρ : Type} {r : ρ} {row : α → List Value} {l : List α} {a : Int} {u0 u1 : α} {f : List α → Option ρ}
theorem upd_bind {z : List α} (h : bind1 (upd l a u1) f = some r) (hz : z = l.set a.toNat u1) : f z = some r := by
  obtain ⟨z', h1, h2⟩ := bind1S h
  obtain ⟨_, _, rfl⟩ := upd_some h1
  rw [hz]; exact h2
theorem L.storeSlM (h : bind1 (upd l a u1) f = some r) (hs : szB P te kk = true) (hx : val fs x = some (el v o)) (ho : o = a.toNat * k + j) (hy : val fs y = some u) (hu : u.cells.toList = vs) (hk : vs.length = kk) (h1 : ∀ u ∈ vs, u.oneCell' = true)
    (hm : m[q]? = some (.sl v e k (l.map row))) (hr : idx l a = some u0) (hj : Nat.ble (j + kk) k = true) (hrow : over (row u0) j vs = row u1) (next : ∀ z, z = l.set a.toNat u1 → f z = some r → L P ops Q n (Cls w0 own (m.set q (.sl v e k (z.map row)))) rest fs) :
    L P ops Q n (Cls w0 own m) (⟨none, .store te x y, t, pos, af, none⟩ :: rest) fs := by
  refine L.storeSlN hs hx ho hy hu hk h1 hm (idx_map hr) (by simpa using hj) ?_
  rw [hrow, ← List.map_set]
  exact next _ rfl (upd_bind h rfl)
end words

/-! ### Structs built -/
def pvals (fs : Fr) : List (Nat × Operand) → Option (List (Nat × Value))
  | [] => some []
  | (i, x) :: r => match val fs x with
    | some v => match pvals fs r with
      | some vs => some ((i, v) :: vs)
      | none => none
    | none => none
theorem Slots.pevals {a : Act} (h : Slots n fs a) : ∀ {xs : List (Nat × Operand)} {vs : List (Nat × Value)}, pvals fs xs = some vs → xs.map (fun p => (p.1, a.eval p.2)) = vs
  | [], vs, hv => by simp only [pvals, Option.some.injEq] at hv; subst hv; rfl
  | (i, x) :: r, vs, hv => by
    simp only [pvals] at hv
    cases h1 : val fs x with
    | none => simp [h1] at hv
    | some v =>
      cases h2 : pvals fs r with
      | none => simp [h1, h2] at hv
      | some vs' =>
        simp only [h1, h2, Option.some.injEq] at hv
        subst hv
        simp [h.eval h1, h.pevals h2]
theorem Y.build {C : World → Prop} {tb : TypeId} {ps : List (Nat × Operand)} {vs : List (Nat × Value)} {cells : Array Value} (hx : pvals fs ps = some vs) (hb : P.built tb vs = some cells) : Y P (.build tb ps.toArray) t n fs C (.agg cells) :=
  Y.of fun d pos af g s w hs hw => by
    have h1 := hs.pevals hx
    have h2 := run_build (P := P) w tb (ps.toArray.map fun p => (p.1, s.eval p.2)) cells (by simpa [h1] using hb)
    simp only [List.map_toArray] at h2
    simp only [execOp, List.map_toArray]
    simp [h2]
end
theorem all0 {p : Value → Prop} : ∀ u ∈ ([] : List Value), p u := by simp
theorem all1 {p : Value → Prop} {v : Value} {l : List Value} (h : p v) (hl : ∀ u ∈ l, p u) : ∀ u ∈ v :: l, p u := List.forall_mem_cons.2 ⟨h, hl⟩
section
variable {P : Program} {Q : Exit → Act → World → Prop} {n : Nat} {fs : Fr} {t : TypeId} {ops : Array Oper} {rest : List Oper} {pos : String} {af : Array Edge}
variable {w0 : World} {own : List Nat} {m : List As}
theorem cells_one {v : Value} (h : v.oneCell' = true) : v.cells.toList = [v] := by cases v <;> simp_all [Value.oneCell', Value.cells]
theorem L.storeV {x y : Operand} {b off i : Nat} {c : List Value} {e te : TypeId} {v : Value} (hs : szB P te 1 = true) (hx : val fs x = some (pt b off)) (hy : val fs y = some v)
    (h1 : ∀ w, Cls w0 own m w → v.oneCell' = true) (hm : m[i]? = some (.obj b c e)) (hl : off + 1 ≤ c.length) (next : L P ops Q n (Cls w0 own (m.set i (.obj b (over c off [v]) e))) rest fs) :
    L P ops Q n (Cls w0 own m) (⟨none, .store te x y, t, pos, af, none⟩ :: rest) fs :=
  fun a w hs' hw => L.store hs hx hy (cells_one (h1 w hw)) rfl (by simpa using h1 w hw) hm hl next a w hs' hw
theorem L.boxV {x : Operand} {e : TypeId} {v : Value} {d : Nat} (hd : Nat.blt d n = true) (hx : val fs x = some v) (h1 : ∀ w, Cls w0 own m w → v.oneCell' = true) (k : ∀ b, L P ops Q n (Cls w0 own (.obj b [v] e :: m)) rest ((d, pt b 0) :: fs)) :
    L P ops Q n (Cls w0 own m) (⟨some d, .box e x, t, pos, af, none⟩ :: rest) fs :=
  fun a w hs' hw => L.box hd hx (fun b => by rw [cells_one (h1 w hw)]; exact k b) a w hs' hw
end
end Go.S
