/-
  Package run: what the models say of operations.
  Conditions: none.
-/
import Derived.Test.YtkhlapdkomnldaaRuC
namespace Go.Proofs.Ytkhlapdkomnldaa
open Go.S
set_option linter.unusedVariables false
set_option linter.unusedSimpArgs false

/-! ### Is an operation there -/
theorem idxLoop (l : List TOp) (q : TOp) (hl : l.length ≤ 1000000) : ∀ (r i : Nat), i + r = l.length → ∀ n, r < n →
    ∃ k : Int, m132_api_Op_L1 l q n (i : Int) = some k ∧ (0 ≤ k ↔ q ∈ l.drop i) := by
  intro r
  induction r with
  | zero =>
    intro i hi n hn
    obtain ⟨n, rfl⟩ := dec n hn
    rw [m132_api_Op_L1, m132_api_Op_L1B, if_neg (by omega), List.drop_eq_nil_of_le (by omega)]
    exact ⟨-1, rfl, by simp⟩
  | succ r ih =>
    intro i hi n hn
    obtain ⟨n, rfl⟩ := dec n (by omega)
    have h1 : i < l.length := by omega
    rw [m132_api_Op_L1, m132_api_Op_L1B, if_pos (by omega), idx_ok h1, bind1_some, isucc i (by omega), bind1_some, drop_cons h1]
    by_cases c : q = l[i]
    · rw [if_pos c]; exact ⟨i, rfl, ⟨fun _ => by rw [c]; exact List.mem_cons_self .., fun _ => by omega⟩⟩
    · rw [if_neg c]
      obtain ⟨k, h2, h3⟩ := ih (i + 1) (by omega) n (by omega)
      exact ⟨k, h2, by rw [h3, List.mem_cons]; simp [c]⟩
theorem has_eq (l : List TOp) (t k : Int) (hl : l.length ≤ 1000000) : m49_quirref_has l t k = some (decide ((⟨t, k, 0⟩ : TOp) ∈ l)) := by
  obtain ⟨j, h1, h2⟩ := idxLoop l ⟨t, k, 0⟩ hl l.length 0 (by omega) big (lt_big (by omega))
  rw [m49_quirref_has, m113_api_Op, m132_api_Op]
  rw [show ((0 : Nat) : Int) = 0 from rfl, List.drop_zero] at *
  rw [h1, bind1_some, bind1_some]
  congr 1
  rw [decide_eq_decide]
  exact h2

/-! ### The last write that stands -/
/-- Is there a write of the item that is not gone in p? -/
def wrt (l p : List TOp) (x : Int) (j : Nat) : Bool := match l[j]? with
  | some o => decide (o.Kind = 2) && decide (o.Item = x) && !decide ((⟨o.Tx, 4, 0⟩ : TOp) ∈ p)
  | none => false
def wr (l p : List TOp) (x : Int) : Nat → Int
  | 0 => -1
  | q + 1 => if wrt l p x q = true then (q : Int) else wr l p x q
theorem wr_range (l p : List TOp) (x : Int) : ∀ q, -1 ≤ wr l p x q ∧ wr l p x q < q
  | 0 => by simp [wr]
  | q + 1 => by
    have := wr_range l p x q
    simp only [wr]
    split <;> omega
theorem writerLoop (l : List TOp) (at' : Nat) (x : Int) (hl : l.length ≤ 200) (ha : at' ≤ l.length) : ∀ (q : Nat), q ≤ at' → ∀ n, q < n → m51_quirref_writer_L1 l x (at' : Int) n ((q : Int) - 1) = some (wr l (l.take at') x q) := by
  intro q
  induction q with
  | zero =>
    intro hq n hn
    obtain ⟨n, rfl⟩ := dec n hn
    rw [m51_quirref_writer_L1, m51_quirref_writer_L1B, if_neg (by omega)]
    rfl
  | succ q ih =>
    intro hq n hn
    obtain ⟨n, rfl⟩ := dec n (by omega)
    have h1 : q < l.length := by omega
    have hw : wrt l (l.take at') x q = (decide (l[q].Kind = 2) && decide (l[q].Item = x) && !decide ((⟨l[q].Tx, 4, 0⟩ : TOp) ∈ l.take at')) := by
      unfold wrt
      rw [List.getElem?_eq_getElem h1]
    have hi : i64 ((q : Int) - 1) = some ((q : Int) - 1) := i64_ok (by omega) (by omega)
    rw [m51_quirref_writer_L1, m51_quirref_writer_L1B, show ((q + 1 : Nat) : Int) - 1 = (q : Int) by omega, if_pos (by omega), m51_quirref_writer_K2, idx_ok h1, bind1_some, wr, hw]
    by_cases c1 : l[q].Kind = 2
    · by_cases c2 : l[q].Item = x
      · rw [if_pos c1, if_pos c2, m51_quirref_writer_K3, if_pos rfl, cut_take l at' ha, bind1_some, has_eq _ _ _ (by rw [List.length_take]; omega), bind1_some, hi, bind1_some, ih (by omega) n (by omega)]
        by_cases c3 : (⟨l[q].Tx, 4, 0⟩ : TOp) ∈ l.take at'
        · simp [c1, c2, c3]
        · simp [c1, c2, c3]
      · rw [if_pos c1, if_neg c2, m51_quirref_writer_K3, if_neg ff, hi, bind1_some, ih (by omega) n (by omega)]
        simp [c1, c2]
    · rw [if_neg c1, m51_quirref_writer_K3, if_neg ff, hi, bind1_some, ih (by omega) n (by omega)]
      simp [c1]
theorem writer_eq (l : List TOp) (at' : Nat) (x : Int) (hl : l.length ≤ 200) (ha : at' ≤ l.length) : m51_quirref_writer l (at' : Int) x = some (wr l (l.take at') x at') := by
  rw [m51_quirref_writer, i64_ok (by omega) (by omega), bind1_some]
  exact writerLoop l at' x hl ha at' (Nat.le_refl _) big (lt_big (by omega))

/-! ### What the table holds -/
def live (l p : List TOp) (q : Nat) (x : Int) : List Int := ((List.range q).filter (wrt l p x)).map fun j : Nat => (j : Int)
theorem live_succ (l p : List TOp) (q : Nat) (x : Int) : live l p (q + 1) x = live l p q x ++ if wrt l p x q = true then [(q : Int)] else [] := by
  unfold live
  rw [List.range_succ, List.filter_append, List.map_append]
  by_cases c : wrt l p x q = true
  · rw [if_pos c]; simp [c]
  · rw [if_neg c]; simp [c]
theorem live_last (l p : List TOp) (x : Int) : ∀ q, wr l p x q = ((live l p q x).getLast?).getD (-1)
  | 0 => rfl
  | q + 1 => by
    rw [live_succ, wr]
    by_cases c : wrt l p x q = true
    · rw [if_pos c, if_pos c]; simp
    · rw [if_neg c, if_neg c, List.append_nil]; exact live_last l p x q
theorem live_mem {l p : List TOp} {q : Nat} {x : Int} {v : Int} (h : v ∈ live l p q x) : ∃ j : Nat, v = (j : Int) ∧ j < q ∧ j < l.length := by
  unfold live at h
  obtain ⟨j, hj, rfl⟩ := List.mem_map.1 h
  obtain ⟨h1, h2⟩ := List.mem_filter.1 hj
  refine ⟨j, rfl, List.mem_range.1 h1, ?_⟩
  unfold wrt at h2
  split at h2
  · rename_i o ho; exact (List.getElem?_eq_some_iff.1 ho).1
  · cases h2
theorem live_len (l p : List TOp) (x : Int) (q : Nat) : (live l p q x).length ≤ q := by
  unfold live
  rw [List.length_map]
  have := List.length_filter_le (wrt l p x) (List.range q)
  rwa [List.length_range] at this
theorem live_same {l p p' : List TOp} {q : Nat} {x : Int} (h : ∀ t : Int, (⟨t, 4, 0⟩ : TOp) ∈ p ↔ (⟨t, 4, 0⟩ : TOp) ∈ p') : live l p q x = live l p' q x := by
  unfold live
  congr 1
  apply List.filter_congr
  intro j _
  unfold wrt
  split
  · rename_i o _
    rw [show decide ((⟨o.Tx, 4, 0⟩ : TOp) ∈ p) = decide ((⟨o.Tx, 4, 0⟩ : TOp) ∈ p') by rw [decide_eq_decide]; exact h _]
  · rfl
/-- Who is not of that transaction. -/
def keep (l : List TOp) (t : Int) (v : Int) : Bool := match idx l v with
  | some o => !decide (o.Tx = t)
  | none => true
theorem live_gone {l p : List TOp} {q : Nat} {x : Int} {t : Int} : live l (p ++ [⟨t, 4, 0⟩]) q x = (live l p q x).filter (keep l t) := by
  unfold live
  rw [List.filter_map, List.filter_filter]
  congr 1
  apply List.filter_congr
  intro j _
  unfold wrt keep
  simp only [Function.comp]
  rw [idx_nat]
  cases hj : l[j]? with
  | none => simp
  | some o =>
    simp only [List.mem_append, List.mem_singleton, TOp.mk.injEq, and_true]
    by_cases c : o.Tx = t
    · simp [c]
    · simp [c]

end Go.Proofs.Ytkhlapdkomnldaa
