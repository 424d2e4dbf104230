/-
  Arguments that hold slices of slices; pointers that may be nil; copy.
  Conditions: none.
-/
import Derived.Test.YtjdbjcmmdnpeaaaJ
import Derived.Laws.IdiomCopy
import Derived.Lib.Repeat
namespace Go.S
set_option linter.unusedVariables false
set_option linter.unusedSimpArgs false
theorem Cls.of_below {w w' : World} (h : RowKit.Below w.heap.size w w') (hd : DR w w') : Cls w [] [] w' :=
  ⟨h.os, h.tape, h.output, hd, h.size, fun k hk _ => h.block k hk, by simp, fun x hx => by cases hx⟩
section
variable {P : Program} {Q : Exit → Act → World → Prop} {n : Nat} {C : World → Prop} {fs : Fr} {t : TypeId} {ops : Array Oper} {rest : List Oper} {d : Nat} {pos : String} {af : Array Edge}
variable {w0 : World} {own : List Nat} {m : List As} {x y : Operand} {e te tx ty : TypeId} {i j k by' : Nat} {v u : Value}
variable {α : Type} {row : α → List Value → List Value} {sds : α → List Value → List Sd} {vs : Nat → List Value} {l : List α} {a : Int} {u0 : α}
theorem zr_idx (h : idx l a = some u0) : (zr row vs l)[a.toNat]? = some (row u0 (vs a.toNat)) := zr_get row vs l _ _ (idx_some h).2.2
theorem zAt {w : World} (hd : ∀ d ∈ zs sds vs l, At w d.v d.k d.rows) {c : Nat} (hc : ∀ z v, (sds z v).length = c) (hr : idx l a = some u0) {rows : List (List Value)} (hj : (sds u0 (vs a.toNat))[j]? = some ⟨v, e, k, rows⟩) : At w v k rows := by
  have h1 := zs_get hc vs l a.toNat j u0 (idx_some hr).2.2 (sds_lt hc hj)
  rw [hj] at h1
  exact hd _ (List.mem_of_getElem? h1)
theorem Y.lenMZ (hu : P.underlying tx = some (.slice e)) (hx : val fs x = some v) (hA : ∀ w, C w → At w v k (zr row vs l)) : Y P (.call ⟨.builtin .len, #[x], #[tx]⟩) t n fs C (.int .i64 l.length) := by
  have := Y.lenA (t := t) (n := n) hu hx hA
  rwa [zr_length] at this
theorem Y.indexMZ {ik : IntKind} (hu : P.underlying tx = some (.slice e)) (hsz : szB P e k = true) (hx : val fs x = some v) (hy : val fs y = some (.int ik a)) (hA : ∀ w, C w → At w v k (zr row vs l)) (z : α) (h : idx l a = some z) :
    Y P (.indexAddr tx x y) t n fs C (el v (a.toNat * k)) := by
  obtain ⟨h0, h1, _⟩ := idx_some h
  exact Y.indexE hu hsz hx hy hA h0 (by rwa [zr_length])
/-- Pointers held against nil. -/
theorem run_equalIn_ptr (w : World) (d : Nat) (a : Option Addr) (hu : P.underlying tx = some (.pointer e)) : (Op.equalIn (d + 1) tx (.pointer a) (.pointer none)).run P w = .ok a.isNone w := by
  cases a <;> simp [Op.equalIn, run_underlying hu]
theorem run_eql_ptr (w : World) (a : Option Addr) (hu : P.underlying tx = some (.pointer e)) : (binOp .eql tx (.pointer a) (.pointer none)).run P w = .ok (.bool a.isNone) w := by
  simp only [binOp]
  simp [Op.equal, Op.maxDepth, run_equalIn_ptr w 9999 a hu]
theorem run_neq_ptr (w : World) (a : Option Addr) (hu : P.underlying tx = some (.pointer e)) : (binOp .neq tx (.pointer a) (.pointer none)).run P w = .ok (.bool !a.isNone) w := by
  simp only [binOp]
  simp [Op.equal, Op.maxDepth, run_equalIn_ptr w 9999 a hu]
theorem Y.eqlP {p : Option Addr} (hu : P.underlying tx = some (.pointer e)) (hx : val fs x = some (.pointer p)) (hy : val fs y = some (.pointer none)) : Y P (.binOp .eql tx x y ty) t n fs C (.bool p.isNone) :=
  Y.of fun d pos af g s w hs hw => by
    have hg : (eqGuard .eql tx x y (.pointer p) (.pointer none)).run P w = .ok () w := by simp [eqGuard]
    simp only [execOp, hs.eval hx, hs.eval hy]
    simp [hg, run_eql_ptr w p hu]
theorem Y.neqP {p : Option Addr} (hu : P.underlying tx = some (.pointer e)) (hx : val fs x = some (.pointer p)) (hy : val fs y = some (.pointer none)) : Y P (.binOp .neq tx x y ty) t n fs C (.bool !p.isNone) :=
  Y.of fun d pos af g s w hs hw => by
    have hg : (eqGuard .neq tx x y (.pointer p) (.pointer none)).run P w = .ok () w := by simp [eqGuard]
    simp only [execOp, hs.eval hx, hs.eval hy]
    simp [hg, run_neq_ptr w p hu]
theorem Y.eqlPN {b o : Nat} (hu : P.underlying tx = some (.pointer e)) (hx : val fs x = some (pt b o)) (hy : val fs y = some (.pointer none)) : Y P (.binOp .eql tx x y ty) t n fs C (.bool false) := Y.eqlP (p := some ⟨b, o, none⟩) hu hx hy
theorem Y.neqPN {b o : Nat} (hu : P.underlying tx = some (.pointer e)) (hx : val fs x = some (pt b o)) (hy : val fs y = some (.pointer none)) : Y P (.binOp .neq tx x y ty) t n fs C (.bool true) := Y.neqP (p := some ⟨b, o, none⟩) hu hx hy
theorem Y.eqlNN (hu : P.underlying tx = some (.pointer e)) (hx : val fs x = some (.pointer none)) (hy : val fs y = some (.pointer none)) : Y P (.binOp .eql tx x y ty) t n fs C (.bool true) := Y.eqlP (p := none) hu hx hy
theorem Y.neqNN (hu : P.underlying tx = some (.pointer e)) (hx : val fs x = some (.pointer none)) (hy : val fs y = some (.pointer none)) : Y P (.binOp .neq tx x y ty) t n fs C (.bool false) := Y.neqP (p := none) hu hx hy

/-! ### copy -/
def cpy (l s : List α) : List α := s.take (min s.length l.length) ++ l.drop (min s.length l.length)
theorem over_pre : ∀ (vs c p b : List Value), vs.length = c.length → over (p ++ c ++ b) p.length vs = p ++ vs ++ b
  | [], c, p, b, h => by
    have : c = [] := List.length_eq_zero_iff.1 (by simpa using h.symm)
    subst this; rfl
  | v :: vs, [], p, b, h => by simp at h
  | v :: vs, u :: c, p, b, h => by
    have e : (p ++ u :: c ++ b).set p.length v = (p ++ [v]) ++ c ++ b := by rw [List.append_assoc, List.set_append_right _ _ (Nat.le_refl _)]; simp
    have := over_pre vs c (p ++ [v]) b (by simpa using h)
    rw [over, e, show p.length + 1 = (p ++ [v]).length by simp, this]
    simp
theorem run_copyRows {rows more : List (List Value)} {sT : TypeId} (hu : P.underlying tx = some (.slice e)) (he : elemB P e k by' = true) (hx : val fs x = some v) (hy : val fs y = some u) (hm : m[i]? = some (.sl v e k rows)) (hB : ∀ w, Cls w0 own m w → At w u k more) (hp : Plain more) (o : Option Tmp) (ac : Act) (w : World) (hsl : Slots n fs ac) (hw : Cls w0 own m w) :
    ∃ v' w', (execOp ac.eval ⟨o, .call ⟨.builtin .copy, #[x, y], #[tx, sT]⟩, t, pos, af, none⟩).run P w = .ok (.value v') w' ∧ Cls w0 own (m.set i (.sl v e k (more.take (min more.length rows.length) ++ rows.drop (min more.length rows.length)))) w' := by
  obtain ⟨hrl, hl, hown⟩ := hw.get hm
  have hA := hB w hw
  obtain ⟨inf, z, hi, hz', hsz, hby, hzs, hk⟩ := elemB_out he
  have hso : ∀ w, (sizeOf e).run P w = .ok k w := fun w => run_sizeOf (by simp [szB, hi, hsz]) w
  have hnoop : min more.length rows.length = 0 → Cls w0 own (m.set i (.sl v e k (more.take (min more.length rows.length) ++ rows.drop (min more.length rows.length)))) w := by
    intro h0
    rw [h0, List.take_zero, List.drop_zero, List.nil_append]
    have : m.set i (.sl v e k rows) = m := by
      obtain ⟨h2, h3⟩ := List.getElem?_eq_some_iff.1 hm
      rw [← h3, List.set_getElem_self]
    rw [this]; exact hw
  have hlen : ∀ (a : Option Addr) (c : Nat), u = .slice a more.length c → (Builtin.lenOf u).run P w = .ok more.length w := by
    intro a c h; subst h; simp [Builtin.lenOf]
  have hread : ∃ cs : List Value, cs = (more.take (min more.length rows.length)).flatten ∧ (Builtin.firstCells k (min more.length rows.length) u).run P w = .ok cs.toArray w := by
    refine ⟨_, rfl, ?_⟩
    rcases hA.shape with ⟨rfl, rfl⟩ | ⟨ad, c, rfl, _, _⟩
    · simp [Builtin.firstCells]
    · have hT := hA.take (min more.length rows.length) (Nat.min_le_left _ _)
      have hfl := hT.flat_cell hk
      have := run_loadCells_list (P := P) w ad (more.take (min more.length rows.length)).flatten (by simpa [cutv, adr] using hfl)
      have hfn : (more.take (min more.length rows.length)).flatten.length = min more.length rows.length * k := by
        rw [flat_len _ (fun r hr => hA.len r (List.mem_of_mem_take hr)), List.length_take, Nat.min_eq_left (Nat.min_le_left _ _)]
      rw [hfn] at this
      simp [Builtin.firstCells, this]
  obtain ⟨cs, hcs0, hcs⟩ := hread
  have hul : (Builtin.lenOf u).run P w = .ok more.length w := by
    rcases hA.shape with ⟨rfl, rfl⟩ | ⟨ad, c, rfl, _, _⟩
    · exact hlen none 0 rfl
    · exact hlen _ _ rfl
  rcases hown with ⟨rfl, hn⟩ | ⟨g, cap, cur, rfl, hg, hh, hnc, hcm, hcsz, htake⟩
  · have : rows = [] := List.length_eq_zero_iff.1 hn
    subst this
    refine ⟨goInt 0, w, ?_, hnoop (by simp)⟩
    simp only [execOp, resolve, List.map_toArray, List.map_cons, List.map_nil, hsl.eval hx, hsl.eval hy]
    simp only [List.length_nil] at hcs
    simp [invoke, builtin, Builtin.copy_, run_underlying hu, hul, hso]
    simp at hcs
    simp [hcs]
  · have hcl : cur.toList.length = cap * k := by simp [hcsz]
    have hh' : w.heap[g]? = some (.cells cur.toList.toArray e (0, 0)) := by simpa using hh
    have hcl2 : cs.length = min more.length rows.length * k := by
      rw [hcs0, flat_len _ (fun r hr => hA.len r (List.mem_of_mem_take hr)), List.length_take, Nat.min_eq_left (Nat.min_le_left _ _)]
    have hmul : min more.length rows.length * k ≤ rows.length * k := Nat.mul_le_mul_right k (Nat.min_le_right _ _)
    have hmulc : rows.length * k ≤ cap * k := Nat.mul_le_mul_right k hnc
    obtain ⟨w', h2, h3, h4⟩ := run_storeCells (P := P) g e 0 cs 0 cur.toList w hh' (by omega) (by
      intro q hq
      rw [hcs0] at hq
      obtain ⟨r, hr, hur⟩ := List.mem_flatten.1 hq
      exact hp r (List.mem_of_mem_take hr) q hur)
    refine ⟨goInt ((more.length.min rows.length : Nat) : Int), w', ?_, ?_⟩
    · simp only [execOp, resolve, List.map_toArray, List.map_cons, List.map_nil, hsl.eval hx, hsl.eval hy]
      simp [invoke, builtin, Builtin.copy_, run_underlying hu, hul, hso, hcs, h2]
    · have htk : ∀ (us : List Value) (c : List Value) (z a : Nat), a + us.length ≤ z → (over c a us).take z = over (c.take z) a us := by
        intro us
        induction us with
        | nil => intro c z a _; rfl
        | cons p us ih => intro c z a h; simp only [List.length_cons] at h; rw [over, over, ih _ _ _ (by omega), List.take_set]
      have hrl2 : ∀ r ∈ more.take (min more.length rows.length) ++ rows.drop (min more.length rows.length), r.length = k := by
        intro r hr
        rcases List.mem_append.1 hr with h | h
        · exact hA.len r (List.mem_of_mem_take h)
        · exact hrl r (List.mem_of_mem_drop h)
      have hlen2 : (more.take (min more.length rows.length) ++ rows.drop (min more.length rows.length)).length = rows.length := by
        rw [List.length_append, List.length_take, List.length_drop, Nat.min_eq_left (Nat.min_le_left _ _)]; omega
      refine hw.turn hm rfl h4.os h4.tape h4.output h4.size (Nat.le_of_eq h4.drawn.symm) (fun p hp => h4.rest p (by simpa [As.foot, Value.ownBlock] using hp)) ⟨hrl2, ?_, .inr ⟨g, cap, (over cur.toList (0 + 0) cs).toArray, by rw [hlen2], hg, h3, by rw [hlen2]; exact hnc, hcm, by simp [over_length, hcsz], ?_⟩⟩
      · rw [flat_len _ hrl2]
      · rw [hlen2, Nat.add_zero, htk _ _ _ _ (by omega), htake]
        have e1 : rows.flatten = [] ++ (rows.take (min more.length rows.length)).flatten ++ (rows.drop (min more.length rows.length)).flatten := by rw [List.nil_append, ← List.flatten_append, List.take_append_drop]
        have e2 : cs.length = (rows.take (min more.length rows.length)).flatten.length := by
          rw [hcl2, flat_len _ (fun r hr => hrl r (List.mem_of_mem_take hr)), List.length_take, Nat.min_eq_left (Nat.min_le_right _ _)]
        have e3 := over_pre cs (rows.take (min more.length rows.length)).flatten [] (rows.drop (min more.length rows.length)).flatten e2
        rw [List.length_nil] at e3
        rw [e1, e3, hcs0, List.flatten_append, List.nil_append]
theorem L.copyRows {rows more : List (List Value)} {sT : TypeId} (hu : P.underlying tx = some (.slice e)) (he : elemB P e k by' = true) (hx : val fs x = some v) (hy : val fs y = some u) (hm : m[i]? = some (.sl v e k rows)) (hB : ∀ w, Cls w0 own m w → At w u k more) (hp : Plain more)
    (next : L P ops Q n (Cls w0 own (m.set i (.sl v e k (more.take (min more.length rows.length) ++ rows.drop (min more.length rows.length))))) rest fs) :
    L P ops Q n (Cls w0 own m) (⟨none, .call ⟨.builtin .copy, #[x, y], #[tx, sT]⟩, t, pos, af, none⟩ :: rest) fs := by
  exact L.runsNoneV (fun ac w hsl hw => run_copyRows hu he hx hy hm hB hp none ac w hsl hw) next
theorem L.copyRowsD {rows more : List (List Value)} {sT : TypeId} (hd : Nat.blt d n = true) (hu : P.underlying tx = some (.slice e)) (he : elemB P e k by' = true) (hx : val fs x = some v) (hy : val fs y = some u) (hm : m[i]? = some (.sl v e k rows)) (hB : ∀ w, Cls w0 own m w → At w u k more) (hp : Plain more)
    (next : ∀ v', L P ops Q n (Cls w0 own (m.set i (.sl v e k (more.take (min more.length rows.length) ++ rows.drop (min more.length rows.length))))) rest ((d, v') :: fs)) :
    L P ops Q n (Cls w0 own m) (⟨some d, .call ⟨.builtin .copy, #[x, y], #[tx, sT]⟩, t, pos, af, none⟩ :: rest) fs :=
  L.runs (R := fun _ w' => Cls w0 own (m.set i (.sl v e k (more.take (min more.length rows.length) ++ rows.drop (min more.length rows.length)))) w') hd (fun ac w hsl hw => run_copyRows hu he hx hy hm hB hp (some d) ac w hsl hw) next
theorem L.copyM {g : α → List Value} {l s : List α} {sT : TypeId} (hu : P.underlying tx = some (.slice e)) (he : elemB P e k by' = true) (hx : val fs x = some v) (hy : val fs y = some u) (hm : m[i]? = some (.sl v e k (l.map g))) (hB : ∀ w, Cls w0 own m w → At w u k (s.map g)) (hp : Plain (s.map g))
    (next : L P ops Q n (Cls w0 own (m.set i (.sl v e k ((cpy l s).map g)))) rest fs) :
    L P ops Q n (Cls w0 own m) (⟨none, .call ⟨.builtin .copy, #[x, y], #[tx, sT]⟩, t, pos, af, none⟩ :: rest) fs := by
  refine L.copyRows hu he hx hy hm hB hp ?_
  rwa [List.length_map, List.length_map, ← List.map_take, ← List.map_drop, ← List.map_append]
theorem L.copyMD {g : α → List Value} {l s : List α} {sT : TypeId} (hd : Nat.blt d n = true) (hu : P.underlying tx = some (.slice e)) (he : elemB P e k by' = true) (hx : val fs x = some v) (hy : val fs y = some u) (hm : m[i]? = some (.sl v e k (l.map g))) (hB : ∀ w, Cls w0 own m w → At w u k (s.map g)) (hp : Plain (s.map g))
    (next : ∀ v', L P ops Q n (Cls w0 own (m.set i (.sl v e k ((cpy l s).map g)))) rest ((d, v') :: fs)) :
    L P ops Q n (Cls w0 own m) (⟨some d, .call ⟨.builtin .copy, #[x, y], #[tx, sT]⟩, t, pos, af, none⟩ :: rest) fs := by
  refine L.copyRowsD hd hu he hx hy hm hB hp fun v' => ?_
  rw [List.length_map, List.length_map, ← List.map_take, ← List.map_drop, ← List.map_append]
  exact next v'
end
/-- strings.Repeat, of what is not too large. -/
def xRepeat (s : List UInt8) (n : Int) : Option (List UInt8) := if 0 ≤ n ∧ n ≤ 1000000 ∧ s.length * n.toNat ≤ 140737488355328 then some (Lib.repeatL s n.toNat) else none
theorem xRepeat_some {s r : List UInt8} {n : Int} (h : xRepeat s n = some r) : 0 ≤ n ∧ n ≤ 1000000 ∧ s.length * n.toNat ≤ 140737488355328 ∧ r = Lib.repeatL s n.toNat := by
  unfold xRepeat at h
  split at h
  · rename_i h1
    simp only [Option.some.injEq] at h
    exact ⟨h1.1, h1.2.1, h1.2.2, h.symm⟩
  · cases h
end Go.S
