/-
  Package see: what the models say.
  Conditions: none.
-/
import Derived.Test.YtglbgeamiobldaaRlC
namespace Go.Proofs.Ytglbgeamiobldaa
open Go.S
set_option linter.unusedVariables false
set_option linter.unusedSimpArgs false

/-! ### Is an operation there -/
theorem idxLoop (l : List TOp) (q : TOp) (hl : l.length ≤ 1000000) : ∀ (r i : Nat), i + r = l.length → ∀ n, r < n →
    ∃ k : Int, m56_api_Op_L1 l q n (i : Int) = some k ∧ (0 ≤ k ↔ q ∈ l.drop i) := by
  intro r
  induction r with
  | zero =>
    intro i hi n hn
    obtain ⟨n, rfl⟩ := dec n hn
    rw [m56_api_Op_L1, m56_api_Op_L1B, if_neg (by omega), List.drop_eq_nil_of_le (by omega)]
    exact ⟨-1, rfl, by simp⟩
  | succ r ih =>
    intro i hi n hn
    obtain ⟨n, rfl⟩ := dec n (by omega)
    have h1 : i < l.length := by omega
    rw [m56_api_Op_L1, m56_api_Op_L1B, if_pos (by omega), idx_ok h1, bind1_some, isucc i (by omega), bind1_some, drop_cons h1]
    by_cases c : q = l[i]
    · rw [if_pos c]; exact ⟨i, rfl, ⟨fun _ => by rw [c]; exact List.mem_cons_self .., fun _ => by omega⟩⟩
    · rw [if_neg c]
      obtain ⟨k, h2, h3⟩ := ih (i + 1) (by omega) n (by omega)
      exact ⟨k, h2, by rw [h3, List.mem_cons]; simp [c]⟩
theorem has_eq (l : List TOp) (t k : Int) (hl : l.length ≤ 1000000) : m37_quirref_has l t k = some (decide ((⟨t, k, 0⟩ : TOp) ∈ l)) := by
  obtain ⟨j, h1, h2⟩ := idxLoop l ⟨t, k, 0⟩ hl l.length 0 (by omega) big (lt_big (by omega))
  rw [m37_quirref_has, m43_api_Op, m56_api_Op]
  rw [show ((0 : Nat) : Int) = 0 from rfl, List.drop_zero] at *
  rw [h1, bind1_some, bind1_some]
  congr 1
  rw [decide_eq_decide]
  exact h2

/-! ### The last write that stands -/
/-- Is there a write of the item that is not gone in p? -/
def wrt (l p : List TOp) (x : Int) (j : Nat) : Bool := match l[j]? with
  | some o => decide (o.Kind = 2) && decide (o.Item = x) && !decide ((⟨o.Tx, 4, 0⟩ : TOp) ∈ p)
  | none => false
def wr (l p : List TOp) (x : Int) : Nat → Int
  | 0 => -1
  | q + 1 => if wrt l p x q = true then (q : Int) else wr l p x q
theorem wr_range (l p : List TOp) (x : Int) : ∀ q, -1 ≤ wr l p x q ∧ wr l p x q < q
  | 0 => by simp [wr]
  | q + 1 => by
    have := wr_range l p x q
    simp only [wr]
    split <;> omega
theorem writerLoop (l : List TOp) (at' : Nat) (x : Int) (hl : l.length ≤ 200) (ha : at' ≤ l.length) : ∀ (q : Nat), q ≤ at' → ∀ n, q < n → m36_quirref_writer_L1 l x (at' : Int) n ((q : Int) - 1) = some (wr l (l.take at') x q) := by
  intro q
  induction q with
  | zero =>
    intro hq n hn
    obtain ⟨n, rfl⟩ := dec n hn
    rw [m36_quirref_writer_L1, m36_quirref_writer_L1B, if_neg (by omega)]
    rfl
  | succ q ih =>
    intro hq n hn
    obtain ⟨n, rfl⟩ := dec n (by omega)
    have h1 : q < l.length := by omega
    have hw : wrt l (l.take at') x q = (decide (l[q].Kind = 2) && decide (l[q].Item = x) && !decide ((⟨l[q].Tx, 4, 0⟩ : TOp) ∈ l.take at')) := by
      unfold wrt
      rw [List.getElem?_eq_getElem h1]
    have hi : i64 ((q : Int) - 1) = some ((q : Int) - 1) := i64_ok (by omega) (by omega)
    rw [m36_quirref_writer_L1, m36_quirref_writer_L1B, show ((q + 1 : Nat) : Int) - 1 = (q : Int) by omega, if_pos (by omega), m36_quirref_writer_K2, idx_ok h1, bind1_some, wr, hw]
    by_cases c1 : l[q].Kind = 2
    · by_cases c2 : l[q].Item = x
      · rw [if_pos c1, if_pos c2, m36_quirref_writer_K3, if_pos rfl, cut_take l at' ha, bind1_some, has_eq _ _ _ (by rw [List.length_take]; omega), bind1_some, hi, bind1_some, ih (by omega) n (by omega)]
        by_cases c3 : (⟨l[q].Tx, 4, 0⟩ : TOp) ∈ l.take at'
        · simp [c1, c2, c3]
        · simp [c1, c2, c3]
      · rw [if_pos c1, if_neg c2, m36_quirref_writer_K3, if_neg ff, hi, bind1_some, ih (by omega) n (by omega)]
        simp [c1, c2]
    · rw [if_neg c1, m36_quirref_writer_K3, if_neg ff, hi, bind1_some, ih (by omega) n (by omega)]
      simp [c1]
theorem writer_eq (l : List TOp) (at' : Nat) (x : Int) (hl : l.length ≤ 200) (ha : at' ≤ l.length) : m36_quirref_writer l (at' : Int) x = some (wr l (l.take at') x at') := by
  rw [m36_quirref_writer, i64_ok (by omega) (by omega), bind1_some]
  exact writerLoop l at' x hl ha at' (Nat.le_refl _) big (lt_big (by omega))

/-! ### What the table holds -/
def live (l p : List TOp) (q : Nat) (x : Int) : List Int := ((List.range q).filter (wrt l p x)).map fun j : Nat => (j : Int)
theorem live_succ (l p : List TOp) (q : Nat) (x : Int) : live l p (q + 1) x = live l p q x ++ if wrt l p x q = true then [(q : Int)] else [] := by
  unfold live
  rw [List.range_succ, List.filter_append, List.map_append]
  by_cases c : wrt l p x q = true
  · rw [if_pos c]; simp [c]
  · rw [if_neg c]; simp [c]
theorem live_last (l p : List TOp) (x : Int) : ∀ q, wr l p x q = ((live l p q x).getLast?).getD (-1)
  | 0 => rfl
  | q + 1 => by
    rw [live_succ, wr]
    by_cases c : wrt l p x q = true
    · rw [if_pos c, if_pos c]; simp
    · rw [if_neg c, if_neg c, List.append_nil]; exact live_last l p x q
theorem live_mem {l p : List TOp} {q : Nat} {x : Int} {v : Int} (h : v ∈ live l p q x) : ∃ j : Nat, v = (j : Int) ∧ j < q ∧ j < l.length := by
  unfold live at h
  obtain ⟨j, hj, rfl⟩ := List.mem_map.1 h
  obtain ⟨h1, h2⟩ := List.mem_filter.1 hj
  refine ⟨j, rfl, List.mem_range.1 h1, ?_⟩
  unfold wrt at h2
  split at h2
  · rename_i o ho; exact (List.getElem?_eq_some_iff.1 ho).1
  · cases h2
theorem live_len (l p : List TOp) (x : Int) (q : Nat) : (live l p q x).length ≤ q := by
  unfold live
  rw [List.length_map]
  have := List.length_filter_le (wrt l p x) (List.range q)
  rwa [List.length_range] at this
theorem live_same {l p p' : List TOp} {q : Nat} {x : Int} (h : ∀ t : Int, (⟨t, 4, 0⟩ : TOp) ∈ p ↔ (⟨t, 4, 0⟩ : TOp) ∈ p') : live l p q x = live l p' q x := by
  unfold live
  congr 1
  apply List.filter_congr
  intro j _
  unfold wrt
  split
  · rename_i o _
    rw [show decide ((⟨o.Tx, 4, 0⟩ : TOp) ∈ p) = decide ((⟨o.Tx, 4, 0⟩ : TOp) ∈ p') by rw [decide_eq_decide]; exact h _]
  · rfl
/-- Who is not of that transaction. -/
def keep (l : List TOp) (t : Int) (v : Int) : Bool := match idx l v with
  | some o => !decide (o.Tx = t)
  | none => true
theorem live_gone {l p : List TOp} {q : Nat} {x : Int} {t : Int} : live l (p ++ [⟨t, 4, 0⟩]) q x = (live l p q x).filter (keep l t) := by
  unfold live
  rw [List.filter_map, List.filter_filter]
  congr 1
  apply List.filter_congr
  intro j _
  unfold wrt keep
  simp only [Function.comp]
  rw [idx_nat]
  cases hj : l[j]? with
  | none => simp
  | some o =>
    simp only [List.mem_append, List.mem_singleton, TOp.mk.injEq, and_true]
    by_cases c : o.Tx = t
    · simp [c]
    · simp [c]

/-! ### A slice without those of a transaction -/
theorem del1 (l : List TOp) (o : TOp) (x9 : List Int) (LL : List (List Int)) (k : Int) (go2 : Int → List (List Int) → Option (List TSeen × Int)) (hx : ∀ v ∈ x9, ∃ j : Nat, v = (j : Int) ∧ j < l.length) (hlen : x9.length ≤ 200) : ∀ (r j : Nat), j + r = x9.length → ∀ (g : List Int) (i : Nat), i ≤ j → g.length = x9.length → g.take i = (x9.take j).filter (keep l o.Tx) → g.drop j = x9.drop j → ∀ n, r < n →
    m34_see_Reads_L3 l o LL k go2 n g (i : Int) (j : Int) = m34_see_Reads_K6 LL k go2 (x9.filter (keep l o.Tx)) := by
  intro r
  induction r with
  | zero =>
    intro j hj g i hij hg hgi hgd n hn
    obtain ⟨n, rfl⟩ := dec n hn
    rw [m34_see_Reads_L3, m34_see_Reads_L3B, if_neg (by omega), m34_see_Reads_K9, cut_drop g i (by omega), bind1_some, clr_ok g i 0 (by omega), bind1_some]
    have hlt : (g.take i).length = i := by rw [List.length_take]; omega
    rw [cut_take _ i (by rw [List.length_append]; omega), bind1_some, List.take_left' hlt, hgi, List.take_of_length_le (by omega)]
  | succ r ih =>
    intro j hj g i hij hg hgi hgd n hn
    obtain ⟨n, rfl⟩ := dec n (by omega)
    have h1 : j < x9.length := by omega
    have h2 : j < g.length := by omega
    have hgj : g[j] = x9[j] := by
      have := congrArg (fun q => q[0]?) hgd
      simp only [List.getElem?_drop, Nat.add_zero] at this
      rw [List.getElem?_eq_getElem h1, List.getElem?_eq_getElem h2, Option.some.injEq] at this
      exact this
    obtain ⟨v, hv, hvl⟩ := hx x9[j] (List.getElem_mem h1)
    have hgd' : g.drop (j + 1) = x9.drop (j + 1) := by
      rw [← List.drop_drop, ← List.drop_drop, hgd]
    have hk : keep l o.Tx x9[j] = !decide (l[v].Tx = o.Tx) := by
      unfold keep
      rw [hv, idx_ok hvl]
    rw [m34_see_Reads_L3, m34_see_Reads_L3B, if_pos (by omega), m34_see_Reads_K10, idx_ok h2, bind1_some, hgj, hv, idx_ok hvl, bind1_some, m34_see_Reads_K11]
    by_cases c : l[v].Tx = o.Tx
    · rw [if_pos (by simp [c]), isucc j (by omega), bind1_some]
      refine ih (j + 1) (by omega) g i (by omega) hg ?_ hgd' n (by omega)
      rw [hgi, take_snoc h1, List.filter_append]
      simp [hk, c]
    · have hil : i < g.length := by omega
      rw [if_neg (by simp [c]), idx_ok hil, bind1_some, upd_ok _ hil, bind1_some, isucc i (by omega), bind1_some, isucc j (by omega), bind1_some]
      refine ih (j + 1) (by omega) _ (i + 1) (by omega) (by simpa using hg) ?_ ?_ n (by omega)
      · rw [take_snoc (by simpa using hil), List.getElem_set_self, List.take_set_of_le (Nat.le_refl _), hgi, take_snoc h1, List.filter_append, ← hv]
        simp [hk, c]
      · rw [List.drop_set_of_lt (by omega)]
        exact hgd'
theorem del (l : List TOp) (o : TOp) (x9 : List Int) (LL : List (List Int)) (k : Int) (go2 : Int → List (List Int) → Option (List TSeen × Int)) (hx : ∀ v ∈ x9, ∃ j : Nat, v = (j : Int) ∧ j < l.length) (hlen : x9.length ≤ 200) : ∀ (r i : Nat), i + r = x9.length → (∀ v ∈ x9.take i, keep l o.Tx v = true) → ∀ n, r < n →
    m34_see_Reads_L4 x9 l LL k go2 o n (i : Int) = m34_see_Reads_K6 LL k go2 (x9.filter (keep l o.Tx)) := by
  intro r
  induction r with
  | zero =>
    intro i hi hall n hn
    obtain ⟨n, rfl⟩ := dec n hn
    rw [m34_see_Reads_L4, m34_see_Reads_L4B, if_neg (by omega), m34_see_Reads_K12, m34_see_Reads_K7, if_pos rfl]
    rw [List.take_of_length_le (by omega)] at hall
    rw [List.filter_eq_self.2 hall]
  | succ r ih =>
    intro i hi hall n hn
    obtain ⟨n, rfl⟩ := dec n (by omega)
    have h1 : i < x9.length := by omega
    obtain ⟨v, hv, hvl⟩ := hx x9[i] (List.getElem_mem h1)
    have hk : keep l o.Tx x9[i] = !decide (l[v].Tx = o.Tx) := by
      unfold keep
      rw [hv, idx_ok hvl]
    rw [m34_see_Reads_L4, m34_see_Reads_L4B, if_pos (by omega), idx_ok h1, bind1_some, hv, idx_ok hvl, bind1_some, m34_see_Reads_K13]
    by_cases c : l[v].Tx = o.Tx
    · rw [if_pos (by simp [c]), m34_see_Reads_K7, if_neg (by omega), m34_see_Reads_K8, isucc i (by omega), bind1_some]
      refine del1 l o x9 LL k go2 hx hlen r (i + 1) (by omega) x9 i (by omega) rfl ?_ rfl big (lt_big (by omega))
      rw [take_snoc h1, List.filter_append, List.filter_eq_self.2 hall]
      simp [hk, c]
    · rw [if_neg (by simp [c]), isucc i (by omega), bind1_some]
      refine ih (i + 1) (by omega) (fun u hu => ?_) n (by omega)
      rw [take_snoc h1, List.mem_append, List.mem_singleton] at hu
      rcases hu with h | rfl
      · exact hall u h
      · rw [hk]; simp [c]
theorem delAll (l : List TOp) (o : TOp) (gx5 : Int) (go1 : List TSeen → Int → List (List Int) → Option (List TSeen × Int)) (gl4 : List TSeen) (f : Int → List Int) (hf : ∀ x, ∀ v ∈ f x, ∃ j : Nat, v = (j : Int) ∧ j < l.length) (hlen : ∀ x, (f x).length ≤ 200) : ∀ (r i : Nat), i + r = 20 → ∀ n, r < n →
    m34_see_Reads_L2 l o gx5 go1 gl4 n (i : Int) (tab 20 fun x => if x < i then (f x).filter (keep l o.Tx) else f x) = m34_see_Reads_K3 gx5 go1 gl4 (tab 20 fun x => (f x).filter (keep l o.Tx)) := by
  intro r
  induction r with
  | zero =>
    intro i hi n hn
    obtain ⟨n, rfl⟩ := dec n hn
    rw [m34_see_Reads_L2, m34_see_Reads_L2B, if_neg (by omega)]
    congr 1
    apply tab_ext
    intro x h0 h1
    rw [if_pos (by omega)]
  | succ r ih =>
    intro i hi n hn
    obtain ⟨n, rfl⟩ := dec n (by omega)
    rw [m34_see_Reads_L2, m34_see_Reads_L2B, if_pos (by omega), tab_idxA (by omega) (by omega), bind1_some, if_neg (by omega)]
    have h2 := del l o (f i) (tab 20 fun x => if x < i then (f x).filter (keep l o.Tx) else f x) (i : Int) (m34_see_Reads_L2 l o gx5 go1 gl4 n) (hf _) (hlen _) (f i).length 0 (by omega) (by simp) big (lt_big (by have := hlen (i : Int); omega))
    rw [show ((0 : Nat) : Int) = 0 from rfl] at h2
    rw [h2, m34_see_Reads_K6, tab_idxA (by omega) (by omega), bind1_some, tab_upd _ (by omega) (by omega), bind1_some, isucc i (by omega), bind1_some, ← ih (i + 1) (by omega) n (by omega)]
    congr 1
    apply tab_ext
    intro x h0 h1
    by_cases c : x = i
    · rw [if_pos c, if_pos (by omega), c]
    · rw [if_neg c]
      by_cases c2 : x < i
      · rw [if_pos c2, if_pos (by omega)]
      · rw [if_neg c2, if_neg (by omega)]

/-! ### The reads -/
theorem readsLoop (l : List TOp) (hg : Good l) : ∀ (r i : Nat), i + r = l.length → ∀ (out : List TSeen), out.length ≤ i → ∀ n n', r < n → r < n' →
    ∃ z, m34_see_Reads_L1 l n out (i : Int) (tab 20 (live l (l.take i) i)) = some (z, 0) ∧ m22_quirref_Reads_L1 l n' out (i : Int) = some z ∧ z.length ≤ 200 := by
  have hl := hg.len
  intro r
  induction r with
  | zero =>
    intro i hi out ho n n' hn hn'
    obtain ⟨n, rfl⟩ := dec n hn
    obtain ⟨n', rfl⟩ := dec n' hn'
    rw [m34_see_Reads_L1, m34_see_Reads_L1B, m22_quirref_Reads_L1, m22_quirref_Reads_L1B, if_neg (by omega), if_neg (by omega)]
    exact ⟨out, rfl, rfl, by omega⟩
  | succ r ih =>
    intro i hi out ho n n' hn hn'
    obtain ⟨n, rfl⟩ := dec n (by omega)
    obtain ⟨n', rfl⟩ := dec n' (by omega)
    have h1 : i < l.length := by omega
    have hf := hg.fine i h1
    have hsn := take_snoc h1
    rw [m34_see_Reads_L1, m34_see_Reads_L1B, m22_quirref_Reads_L1, m22_quirref_Reads_L1B, if_pos (by omega), if_pos (by omega), idx_ok h1, bind1_some, bind1_some, isucc i (by omega), bind1_some]
    generalize hoo : l[i] = o at hf hsn
    have hwi : ∀ p x, wrt l p x i = (decide (o.Kind = 2) && decide (o.Item = x) && !decide ((⟨o.Tx, 4, 0⟩ : TOp) ∈ p)) := by
      intro p x
      unfold wrt
      rw [List.getElem?_eq_getElem h1, hoo]
    have hsame : o.Kind ≠ 4 → ∀ t : Int, (⟨t, 4, 0⟩ : TOp) ∈ l.take (i + 1) ↔ (⟨t, 4, 0⟩ : TOp) ∈ l.take i := by
      intro h4 t
      rw [hsn, List.mem_append, List.mem_singleton]
      constructor
      · rintro (h | h)
        · exact h
        · rw [← h] at h4; exact absurd rfl h4
      · exact Or.inl
    by_cases c1 : o.Kind = 1
    · have hlive : tab 20 (live l (l.take i) i) = tab 20 (live l (l.take (i + 1)) (i + 1)) := by
        apply tab_ext
        intro x _ _
        rw [live_succ, hwi, live_same (hsame (by omega))]
        simp [c1]
      have hw : ((live l (l.take i) i o.Item).getLast?).getD (-1) = wr l (l.take i) o.Item i := (live_last l (l.take i) o.Item i).symm
      have happ : ∀ v : Int, app out [(⟨(i : Int), v⟩ : TSeen)] = some (out ++ [⟨(i : Int), v⟩]) := fun v => app_ok (by simp; omega)
      rw [if_pos c1, if_pos c1, m34_see_Reads_K4, if_pos rfl, tab_idxA hf.i0 hf.i1, bind1_some, writer_eq l i o.Item hl (by omega), bind1_some (wr l (l.take i) o.Item i), happ (wr l (l.take i) o.Item i), bind1_some (out ++ [(⟨(i : Int), wr l (l.take i) o.Item i⟩ : TSeen)]), bind1_some ((i + 1 : Nat) : Int)]
      have hgo : ∀ v : Int, v = wr l (l.take i) o.Item i → ∃ z, m34_see_Reads_K3 (i : Int) (m34_see_Reads_L1 l n) (out ++ [⟨(i : Int), v⟩]) (tab 20 (live l (l.take i) i)) = some (z, 0) ∧ m22_quirref_Reads_L1 l n' (out ++ [⟨(i : Int), wr l (l.take i) o.Item i⟩]) ((i + 1 : Nat) : Int) = some z ∧ z.length ≤ 200 := by
        rintro v rfl
        rw [m34_see_Reads_K3, isucc i (by omega), bind1_some, hlive]
        exact ih (i + 1) (by omega) _ (by simp; omega) n n' (by omega) (by omega)
      by_cases c2 : live l (l.take i) i o.Item = []
      · rw [c2, if_neg (by simp), happ, bind1_some]
        refine hgo _ ?_
        rw [← hw, c2]; rfl
      · have hpos : 0 < (live l (l.take i) i o.Item).length := List.length_pos_iff.2 c2
        have hll := live_len l (l.take i) o.Item i
        rw [if_pos (by omega), bind1_some, ipred _ hpos (by omega), bind1_some, idx_ok (by omega), bind1_some, happ, bind1_some]
        refine hgo _ ?_
        rw [← hw, List.getLast?_eq_getElem?, List.getElem?_eq_getElem (by omega)]
        rfl
    rw [if_neg c1, if_neg c1, m34_see_Reads_K4]
    by_cases c2 : o.Kind = 2
    · have hno : ¬ (⟨o.Tx, 4, 0⟩ : TOp) ∈ l.take i := by
        intro hm
        have := hf.open'
        unfold ended at this
        rw [List.any_eq_false] at this
        have := this _ hm
        simp at this
      have hll := live_len l (l.take i) o.Item i
      rw [if_neg ff, if_pos c2, m34_see_Reads_K5, if_pos rfl, tab_idxA hf.i0 hf.i1, bind1_some, app_ok (by simp; omega), bind1_some, bind1_some, tab_upd _ hf.i0 hf.i1, bind1_some, m34_see_Reads_K3, isucc i (by omega), bind1_some]
      have hlive : (tab 20 fun x => if x = o.Item then live l (l.take i) i o.Item ++ [(i : Int)] else live l (l.take i) i x) = tab 20 (live l (l.take (i + 1)) (i + 1)) := by
        apply tab_ext
        intro x _ _
        rw [live_succ, hwi, live_same (hsame (by omega))]
        by_cases c : x = o.Item
        · subst c
          rw [if_pos rfl, if_pos]
          simp only [c2, decide_true, Bool.true_and, Bool.not_eq_true', decide_eq_false_iff_not]
          rw [hsame (by omega)]
          exact hno
        · rw [if_neg c, if_neg, List.append_nil]
          simp [Ne.symm c]
      rw [hlive]
      exact ih (i + 1) (by omega) _ (by omega) n n' (by omega) (by omega)
    rw [if_neg ff, if_neg c2, m34_see_Reads_K5, if_neg ff]
    by_cases c3 : o.Kind = 4
    · have hit := hf.item (by omega)
      have heo : o = ⟨o.Tx, 4, 0⟩ := by rw [← c3, ← hit]
      have hd := delAll l o (i : Int) (m34_see_Reads_L1 l n) out (live l (l.take i) i) (fun x v hv => by obtain ⟨j, h1, _, h3⟩ := live_mem hv; exact ⟨j, h1, h3⟩) (fun x => by have := live_len l (l.take i) x i; omega) 20 0 (by omega) big (lt_big (by omega))
      have h0 : (tab 20 fun x => if x < ((0 : Nat) : Int) then (live l (l.take i) i x).filter (keep l o.Tx) else live l (l.take i) i x) = tab 20 (live l (l.take i) i) := by
        apply tab_ext
        intro x h _
        rw [if_neg (by omega)]
      rw [h0, show ((0 : Nat) : Int) = 0 from rfl] at hd
      have hlive : (tab 20 fun x => (live l (l.take i) i x).filter (keep l o.Tx)) = tab 20 (live l (l.take (i + 1)) (i + 1)) := by
        apply tab_ext
        intro x _ _
        rw [live_succ, hwi, hsn, heo, live_gone]
        simp
      rw [if_pos c3, hd, hlive, m34_see_Reads_K3, isucc i (by omega), bind1_some]
      exact ih (i + 1) (by omega) _ (by omega) n n' (by omega) (by omega)
    · have hlive : tab 20 (live l (l.take i) i) = tab 20 (live l (l.take (i + 1)) (i + 1)) := by
        apply tab_ext
        intro x _ _
        rw [live_succ, hwi, live_same (hsame c3)]
        simp [c2]
      rw [if_neg c3, m34_see_Reads_K3, isucc i (by omega), bind1_some, hlive]
      exact ih (i + 1) (by omega) _ (by omega) n n' (by omega) (by omega)
theorem reads_eq (l : List TOp) (hg : Good l) : ∃ z, m34_see_Reads_K1 l = some (z, 0) ∧ m22_quirref_Reads l = some z ∧ z.length ≤ 200 := by
  have hl := hg.len
  rw [m34_see_Reads_K1, m22_quirref_Reads, tab_repl]
  exact readsLoop l hg l.length 0 (by omega) [] (by simp) big big (lt_big (by omega)) (lt_big (by omega))
end Go.Proofs.Ytglbgeamiobldaa
