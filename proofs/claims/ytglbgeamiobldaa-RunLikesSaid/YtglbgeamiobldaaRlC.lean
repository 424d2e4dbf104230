/-
  Runs: which are right.
  Conditions: none.
-/
import Derived.Test.YtglbgeamiobldaaRlM
import Derived.Test.YtglbgeamiobldaaJ
namespace Go.Proofs.Ytglbgeamiobldaa
open Go.S
set_option linter.unusedVariables false
set_option linter.unusedSimpArgs false

/-- Is a transaction over in these operations? -/
def ended (p : List TOp) (t : Int) : Bool := p.any fun o => decide (o.Tx = t) && decide (2 < o.Kind)
theorem ended_snoc (p : List TOp) (o : TOp) (t : Int) : ended (p ++ [o]) t = (ended p t || (decide (o.Tx = t) && decide (2 < o.Kind))) := by simp [ended]
theorem runRef2 (p : List TOp) (o : TOp) (gx1 : Int) (go1 : Int → Option Int) (hp : p.length ≤ 200) : ∀ (r i : Nat), i + r = p.length → ∀ n, r < n →
    m5_quirref_RunErr_L2 p o gx1 go1 n (i : Int) = if ended (p.drop i) o.Tx = true then some 4 else m5_quirref_RunErr_K3 gx1 go1 := by
  intro r
  induction r with
  | zero =>
    intro i hi n hn
    obtain ⟨n, rfl⟩ := dec n hn
    rw [m5_quirref_RunErr_L2, m5_quirref_RunErr_L2B, if_neg (by omega), List.drop_eq_nil_of_le (by omega)]
    simp [ended]
  | succ r ih =>
    intro i hi n hn
    obtain ⟨n, rfl⟩ := dec n (by omega)
    have h1 : i < p.length := by omega
    have e : ended (p.drop i) o.Tx = ((decide (p[i].Tx = o.Tx) && decide (2 < p[i].Kind)) || ended (p.drop (i + 1)) o.Tx) := by rw [drop_cons h1]; rfl
    rw [m5_quirref_RunErr_L2, m5_quirref_RunErr_L2B, if_pos (by omega), idx_ok h1, bind1_some, isucc i (by omega), bind1_some, ih (i + 1) (by omega) n (by omega), e]
    by_cases c1 : p[i].Tx = o.Tx
    · by_cases c2 : 2 < p[i].Kind
      · simp [c1, c2]
      · simp [c1, c2]
    · simp [c1]
/-- What a right operation is, behind these. -/
structure Fine (p : List TOp) (o : TOp) : Prop where
  t0 : 0 ≤ o.Tx
  t1 : o.Tx < 12
  i0 : 0 ≤ o.Item
  i1 : o.Item < 20
  k0 : 1 ≤ o.Kind
  k1 : o.Kind ≤ 4
  item : 2 < o.Kind → o.Item = 0
  open' : ended p o.Tx = false
structure Good (l : List TOp) : Prop where
  len : l.length ≤ 200
  fine : ∀ i (h : i < l.length), Fine (l.take i) l[i]
theorem runLoop (l : List TOp) (hl : l.length ≤ 200) : ∀ (r i : Nat), i + r = l.length → (∀ j (h : j < l.length), j < i → Fine (l.take j) l[j]) → ∀ n n', r < n → r < n' →
    ∃ e, m5_quirref_RunErr_L1 l n (i : Int) = some e ∧ m10_run_Check_L1 l n' (i : Int) (tab 12 (ended (l.take i))) = some e ∧ (e = 0 → ∀ j (h : j < l.length), Fine (l.take j) l[j]) := by
  intro r
  induction r with
  | zero =>
    intro i hi hf n n' hn hn'
    obtain ⟨n, rfl⟩ := dec n hn
    obtain ⟨n', rfl⟩ := dec n' hn'
    rw [m5_quirref_RunErr_L1, m5_quirref_RunErr_L1B, m10_run_Check_L1, m10_run_Check_L1B, if_neg (by omega), if_neg (by omega)]
    exact ⟨0, rfl, rfl, fun _ j h => hf j h (by omega)⟩
  | succ r ih =>
    intro i hi hf n n' hn hn'
    obtain ⟨n, rfl⟩ := dec n (by omega)
    obtain ⟨n', rfl⟩ := dec n' (by omega)
    have h1 : i < l.length := by omega
    rw [m5_quirref_RunErr_L1, m5_quirref_RunErr_L1B, m10_run_Check_L1, m10_run_Check_L1B, if_pos (by omega), if_pos (by omega), idx_ok h1, bind1_some, bind1_some]
    generalize ho : l[i] = o
    have hbad : ∀ (A B : Option Int), (∃ e, A = some e ∧ B = some e ∧ e ≠ 0) → ∃ e, A = some e ∧ B = some e ∧ (e = 0 → ∀ j (h : j < l.length), Fine (l.take j) l[j]) := by
      rintro A B ⟨e, h1, h2, h3⟩
      exact ⟨e, h1, h2, fun h => absurd h h3⟩
    by_cases c1 : o.Tx < 0
    · rw [if_pos c1, if_pos c1]; exact hbad _ _ ⟨1, rfl, rfl, by decide⟩
    rw [if_neg c1, if_neg c1]
    by_cases c2 : 11 < o.Tx
    · rw [if_pos c2, if_pos (by omega)]; exact hbad _ _ ⟨1, rfl, rfl, by decide⟩
    rw [if_neg c2, if_neg (by omega), m5_quirref_RunErr_K8, m10_run_Check_K7, if_neg ff, if_neg ff]
    by_cases c3 : o.Item < 0
    · rw [if_pos c3, if_pos c3]; exact hbad _ _ ⟨1, rfl, rfl, by decide⟩
    rw [if_neg c3, if_neg c3]
    by_cases c4 : 19 < o.Item
    · rw [if_pos c4, if_pos (by omega)]; exact hbad _ _ ⟨1, rfl, rfl, by decide⟩
    rw [if_neg c4, if_neg (by omega), m5_quirref_RunErr_K4, m10_run_Check_K4]
    -- the kinds
    have hK5 : o.Kind ≤ 4 → 1 ≤ o.Kind → (2 < o.Kind → o.Item = 0) → ∃ e, m5_quirref_RunErr_K5 l (i : Int) o (m5_quirref_RunErr_L1 l n) = some e ∧ m10_run_Check_K5 (tab 12 (ended (l.take i))) o (i : Int) (m10_run_Check_L1 l n') = some e ∧ (e = 0 → ∀ j (h : j < l.length), Fine (l.take j) l[j]) := by
      intro hk1 hk0 hit
      have h2 := runRef2 (l.take i) o (i : Int) (m5_quirref_RunErr_L1 l n) (by rw [List.length_take]; omega) (l.take i).length 0 (by omega) big (lt_big (by rw [List.length_take]; omega))
      rw [show ((0 : Nat) : Int) = 0 from rfl, List.drop_zero] at h2
      rw [m5_quirref_RunErr_K5, cut_take l i (by omega), bind1_some, h2, m10_run_Check_K5, tab_idxA (by omega) (by omega), bind1_some]
      by_cases c5 : ended (l.take i) o.Tx = true
      · rw [if_pos c5, if_pos c5]; exact hbad _ _ ⟨4, rfl, rfl, by decide⟩
      · rw [if_neg c5, if_neg c5, bind1_some, tab_upd _ (by omega) (by omega), bind1_some, m5_quirref_RunErr_K3, m10_run_Check_K3, isucc i (by omega), bind1_some, bind1_some]
        have et : (tab 12 fun j => if j = o.Tx then decide (3 ≤ o.Kind) else ended (l.take i) j) = tab 12 (ended (l.take (i + 1))) := by
          apply tab_ext
          intro j _ _
          rw [take_snoc h1, ended_snoc, ho]
          by_cases hj : j = o.Tx
          · subst hj
            have c5' : ended (l.take i) o.Tx = false := by simpa using c5
            rw [if_pos rfl, c5', Bool.false_or, decide_eq_true rfl, Bool.true_and, decide_eq_decide]
            omega
          · rw [if_neg hj]
            simp [Ne.symm hj]
        rw [et]
        refine ih (i + 1) (by omega) (fun j h hj => ?_) n n' (by omega) (by omega)
        by_cases hji : j = i
        · subst hji
          rw [ho]
          exact ⟨by omega, by omega, by omega, by omega, hk0, hk1, hit, by simpa using c5⟩
        · exact hf j h (by omega)
    by_cases c5 : o.Kind = 1
    · rw [if_neg (by omega), if_neg (by omega), if_pos c5, m5_quirref_RunErr_K6, if_neg ff, if_neg (by omega), m5_quirref_RunErr_K7, if_neg ff, m10_run_Check_K6, if_pos rfl]
      exact hK5 (by omega) (by omega) (by omega)
    by_cases c6 : o.Kind = 2
    · rw [if_neg (by omega), if_neg (by omega), if_neg c5, if_pos c6, m5_quirref_RunErr_K6, if_neg ff, if_neg (by omega), m5_quirref_RunErr_K7, if_neg ff, m10_run_Check_K6, if_pos rfl]
      exact hK5 (by omega) (by omega) (by omega)
    rw [if_neg c5, if_neg c6, m10_run_Check_K6, if_neg ff]
    by_cases c7 : o.Kind = 3
    · rw [if_neg (by omega), if_neg (by omega), if_pos c7, m5_quirref_RunErr_K6, if_neg ff, if_pos (by omega)]
      by_cases c9 : o.Item ≠ 0
      · rw [if_pos c9, if_pos c9]; exact hbad _ _ ⟨4, rfl, rfl, by decide⟩
      · rw [if_neg c9, if_neg c9, m5_quirref_RunErr_K7, if_neg ff]
        exact hK5 (by omega) (by omega) (by omega)
    by_cases c8 : o.Kind = 4
    · rw [if_neg (by omega), if_neg (by omega), if_neg c7, if_pos c8, m5_quirref_RunErr_K6, if_neg ff, if_pos (by omega)]
      by_cases c9 : o.Item ≠ 0
      · rw [if_pos c9, if_pos c9]; exact hbad _ _ ⟨4, rfl, rfl, by decide⟩
      · rw [if_neg c9, if_neg c9, m5_quirref_RunErr_K7, if_neg ff]
        exact hK5 (by omega) (by omega) (by omega)
    rw [if_neg c7, if_neg c8]
    by_cases c9 : o.Kind < 1
    · rw [if_pos c9]; exact hbad _ _ ⟨4, rfl, rfl, by decide⟩
    · rw [if_neg c9, if_pos (by omega)]; exact hbad _ _ ⟨4, rfl, rfl, by decide⟩
theorem run_eq (l : List TOp) : ∃ e, m5_quirref_RunErr l = some e ∧ m10_run_Check l = some e ∧ (e = 0 → Good l) := by
  rw [m5_quirref_RunErr, m10_run_Check]
  by_cases h : 200 < l.length
  · exact ⟨2, by rw [if_pos (by omega)], by rw [if_pos (by omega)], by omega⟩
  · rw [if_neg (by omega), if_neg (by omega), m5_quirref_RunErr_K1, m10_run_Check_K1]
    obtain ⟨e, h1, h2, h3⟩ := runLoop l (by omega) l.length 0 (by omega) (by omega) big big (lt_big (by omega)) (lt_big (by omega))
    refine ⟨e, h1, ?_, fun h0 => ⟨by omega, h3 h0⟩⟩
    rw [tab_repl]
    exact h2
end Go.Proofs.Ytglbgeamiobldaa
