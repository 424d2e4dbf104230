/-
  Operations on arrays whose elements hold slices.
  Conditions: none.
-/
import Derived.Test.YtdebhhjbgbkbjaaG
namespace Go.S
set_option linter.unusedVariables false
set_option linter.unusedSimpArgs false
def svRow {α : Type} (x : α) (vs : List Value) : List Value := [gv vs 0]
def svSd {α : Type} (e : TypeId) (k : Nat) (row : α → List Value) (x : List α) (vs : List Value) : List Sd := [⟨gv vs 0, e, k, x.map row⟩]
/-- A slice's elements from a place on, made zero. -/
def clr {α : Type} (l : List α) (a : Int) (z : α) : Option (List α) := if 0 ≤ a ∧ a ≤ l.length then some (l.take a.toNat ++ List.replicate (l.length - a.toNat) z) else none
theorem flat_len {k : Nat} : ∀ (rows : List (List Value)), (∀ r ∈ rows, r.length = k) → rows.flatten.length = rows.length * k
  | [], _ => by simp
  | r :: rows, h => by
    simp only [List.flatten_cons, List.length_append, List.length_cons, Nat.succ_mul]
    rw [flat_len rows (fun q hq => h q (by simp [hq])), h r (by simp)]
    omega
section
variable {P : Program} {Q : Exit → Act → World → Prop} {n : Nat} {fs : Fr} {t : TypeId} {ops : Array Oper} {rest : List Oper} {d : Nat} {pos : String} {af : Array Edge}
variable {w0 : World} {own : List Nat} {m : List As} {x y : Operand} {e te tx : TypeId} {q s p o i j k kk b c by' : Nat} {v u : Value} {vals : List Value}
theorem L.runsNoneV {op : Op} {C D : World → Prop}
    (hr : ∀ a w, Slots n fs a → C w → ∃ v w', (execOp a.eval ⟨none, op, t, pos, af, none⟩).run P w = .ok (.value v) w' ∧ D w')
    (k : L P ops Q n D rest fs) : L P ops Q n C (⟨none, op, t, pos, af, none⟩ :: rest) fs := by
  intro a w hs hw
  obtain ⟨v, w', h, hv⟩ := hr a w hs hw
  simp only [wpList, Region.wanted, if_true]
  refine .inl ?_
  unfold Oper.wp
  rw [h]
  exact k _ w' hs hv
theorem L.clear {rows : List (List Value)} {a : Nat} {zc : List Value} (hu : P.underlying tx = some (.slice e)) (he : elemB P e k by' = true) (hz : zeroB P e = some zc) (h1 : ∀ u ∈ zc, u.oneCell' = true) (hx : val fs x = some (dropv v a k)) (hm : m[i]? = some (.sl v e k rows)) (ha : a ≤ rows.length)
    (next : L P ops Q n (Cls w0 own (m.set i (.sl v e k (rows.take a ++ List.replicate (rows.length - a) zc)))) rest fs) :
    L P ops Q n (Cls w0 own m) (⟨none, .call ⟨.builtin .clear, #[x], #[tx]⟩, t, pos, af, none⟩ :: rest) fs := by
  exact L.runsNoneV (fun ac w hsl hw => by
    obtain ⟨hrl, hl, hown⟩ := hw.get hm
    obtain ⟨inf, z, hi, hz', hsz, hby, hzs, hk⟩ := elemB_out he
    have hzz : z.cells.toList = zc := by
      unfold zeroB at hz
      simpa [hi, hz'] using hz
    have hzl : zc.length = k := by rw [← hzz]; simp [hzs]
    have hnoop : ∀ (hd0 : rows.length - a = 0), Cls w0 own (m.set i (.sl v e k (rows.take a ++ List.replicate (rows.length - a) zc))) w := by
      intro h0
      rw [h0, List.replicate_zero, List.append_nil, List.take_of_length_le (by omega)]
      have : m.set i (.sl v e k rows) = m := by
        obtain ⟨h2, h3⟩ := List.getElem?_eq_some_iff.1 hm
        rw [← h3, List.set_getElem_self]
      rw [this]; exact hw
    rcases hown with ⟨rfl, hn⟩ | ⟨g, cap, cur, rfl, hg, hh, hnc, hcm, hcs, htake⟩
    · have : rows = [] := List.length_eq_zero_iff.1 hn
      subst this
      refine ⟨.tuple #[], w, ?_, hnoop (by simp)⟩
      simp only [execOp, resolve, List.map_toArray, List.map_cons, List.map_nil, hsl.eval hx, dropv]
      simp [invoke, builtin, Builtin.clear_, run_underlying hu]
    · by_cases h0 : rows.length - a = 0
      · refine ⟨.tuple #[], w, ?_, hnoop h0⟩
        simp only [execOp, resolve, List.map_toArray, List.map_cons, List.map_nil, hsl.eval hx, dropv, h0]
        cases (if cap - a = 0 then some (⟨g, 0, none⟩ : Addr) else (some (⟨g, 0, none⟩ : Addr)).map (·.add (a * k))) <;> simp [invoke, builtin, Builtin.clear_, run_underlying hu]
      · have hcl : cur.toList.length = cap * k := by simp [hcs]
        have hh' : w.heap[g]? = some (.cells cur.toList.toArray e (0, 0)) := by simpa using hh
        have hrows := madeRows z.cells (rows.length - a) k hzs hk
        rw [hzz] at hrows
        have hzcs : (Builtin.zeroCells z.cells (rows.length - a)).toList = (List.replicate (rows.length - a) zc).flatten := by
          unfold Builtin.zeroCells
          rw [hzs]
          rw [hzs] at hrows
          exact hrows
        have hrep : ∀ r ∈ List.replicate (rows.length - a) zc, r.length = k := by
          intro r hr; rw [List.mem_replicate] at hr; rw [hr.2, hzl]
        have hfl : (List.replicate (rows.length - a) zc).flatten.length = (rows.length - a) * k := by rw [flat_len _ hrep, List.length_replicate]
        have hmul : a * k + (rows.length - a) * k = rows.length * k := by rw [← Nat.add_mul]; congr 1; omega
        have hmulc : rows.length * k ≤ cap * k := Nat.mul_le_mul_right k hnc
        obtain ⟨w', h2, h3, h4⟩ := run_storeCells (P := P) g e (a * k) (List.replicate (rows.length - a) zc).flatten 0 cur.toList w hh' (by omega) (by
          intro u hu'
          obtain ⟨r, hr, hur⟩ := List.mem_flatten.1 hu'
          rw [List.mem_replicate] at hr
          rw [hr.2] at hur
          exact h1 u hur)
        refine ⟨.tuple #[], w', ?_, ?_⟩
        · have hca : ¬ (cap - a = 0) := by omega
          simp only [execOp, resolve, List.map_toArray, List.map_cons, List.map_nil, hsl.eval hx, dropv]
          rw [if_neg hca]
          obtain ⟨q, hq⟩ : ∃ q, rows.length - a = q + 1 := ⟨rows.length - a - 1, by omega⟩
          have hzv : ∀ w, (zeroValue e).run P w = .ok z w := fun w => by simp [zeroValue, typeInfo, hi, hz']
          rw [← hzcs, hq] at h2
          rw [hq]
          simp [invoke, builtin, Builtin.clear_, run_underlying hu, hzv, Addr.add_lit, h2]
        · have htk : ∀ (us : List Value) (c : List Value) (z a : Nat), a + us.length ≤ z → (over c a us).take z = over (c.take z) a us := by
            intro us
            induction us with
            | nil => intro c z a _; rfl
            | cons p us ih => intro c z a h; simp only [List.length_cons] at h; rw [over, over, ih _ _ _ (by omega), List.take_set]
          have hrl2 : ∀ r ∈ rows.take a ++ List.replicate (rows.length - a) zc, r.length = k := by
            intro r hr
            rcases List.mem_append.1 hr with h | h
            · exact hrl r (List.mem_of_mem_take h)
            · exact hrep r h
          have hlen2 : (rows.take a ++ List.replicate (rows.length - a) zc).length = rows.length := by simp; omega
          refine hw.turn hm rfl h4.os h4.tape h4.output h4.size (Nat.le_of_eq h4.drawn.symm) (fun p hp => h4.rest p (by simpa [As.foot, Value.ownBlock] using hp)) ⟨hrl2, ?_, .inr ⟨g, cap, (over cur.toList (a * k + 0) (List.replicate (rows.length - a) zc).flatten).toArray, by rw [hlen2], hg, h3, by rw [hlen2]; exact hnc, hcm, by simp [over_length, hcs], ?_⟩⟩
          · rw [flat_len _ hrl2]
          · rw [hlen2, Nat.add_zero]
            rw [htk _ _ _ _ (by rw [hfl]; omega), htake]
            have e1 : rows.flatten = (rows.take a).flatten ++ (rows.drop a).flatten := by rw [← List.flatten_append, List.take_append_drop]
            have e2 : (rows.take a).flatten.length = a * k := by rw [flat_len _ (fun r hr => hrl r (List.mem_of_mem_take hr)), List.length_take, Nat.min_eq_left ha]
            have e3 := over_all (List.replicate (rows.length - a) zc).flatten (rows.drop a).flatten (rows.take a).flatten (by rw [hfl, flat_len _ (fun r hr => hrl r (List.mem_of_mem_drop hr)), List.length_drop])
            rw [e2] at e3
            rw [e1, e3, List.flatten_append]) next

section ghost
variable {α ρ : Type} {r : ρ} {row : α → List Value → List Value} {sds : α → List Value → List Sd} {vs : Nat → List Value} {l : List α} {a : Int} {u0 u1 : α} {f : List α → Option ρ}
theorem sds_lt (hc : ∀ z v, (sds z v).length = c) {dd : Sd} {z : α} {v : List Value} (hj : (sds z v)[j]? = some dd) : j < c := by
  have := (List.getElem?_eq_some_iff.1 hj).1
  rwa [hc] at this
end ghost
end
/-! ### '==' of arrays -/
section
variable {P : Program} {Q : Exit → Act → World → Prop} {n : Nat} {C : World → Prop} {fs : Fr} {t : TypeId} {ops : Array Oper} {rest : List Oper} {d : Nat} {pos : String} {af : Array Edge} {x y : Operand} {tx ty : TypeId}
variable {α : Type} {row : α → List Value} {l l' : List α} {k m : Nat} {e : TypeId}
end
end Go.S
