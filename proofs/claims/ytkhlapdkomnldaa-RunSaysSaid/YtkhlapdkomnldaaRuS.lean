/-
  Serial of a run: the models of both answer alike.
  Conditions: none.
-/
import Derived.Test.YtkhlapdkomnldaaRuE
namespace Go.Proofs.Ytkhlapdkomnldaa
open Go.S
set_option linter.unusedVariables false
set_option linter.unusedSimpArgs false

theorem drop_at {α : Type} {g x9 : List α} {j : Nat} (h1 : j < x9.length) (h2 : j < g.length) (hgd : g.drop j = x9.drop j) : g[j] = x9[j] ∧ g.drop (j + 1) = x9.drop (j + 1) := by
  refine ⟨?_, by rw [← List.drop_drop, ← List.drop_drop, hgd]⟩
  have := congrArg (fun q => q[0]?) hgd
  simp only [List.getElem?_drop, Nat.add_zero] at this
  rw [List.getElem?_eq_getElem h1, List.getElem?_eq_getElem h2, Option.some.injEq] at this
  exact this
theorem sdel1 (T : Int → Bool) (x9 : List Int) (hx : ∀ v ∈ x9, 0 ≤ v ∧ v < 12) (hlen : x9.length ≤ 200) : ∀ (r j : Nat), j + r = x9.length → ∀ (g : List Int) (i : Nat), i ≤ j → g.length = x9.length → g.take i = (x9.take j).filter T → g.drop j = x9.drop j → ∀ n, r < n →
    m10_run_Serial_L1 (tab 12 T) n g (i : Int) (j : Int) = m10_run_Serial_K3 (x9.filter T) := by
  intro r
  induction r with
  | zero =>
    intro j hj g i hij hg hgi hgd n hn
    obtain ⟨n, rfl⟩ := dec n hn
    have hlt : (g.take i).length = i := by rw [List.length_take]; omega
    rw [m10_run_Serial_L1, m10_run_Serial_L1B, if_neg (by omega), m10_run_Serial_K6, cut_drop g i (by omega), bind1_some, clr_ok g i 0 (by omega), bind1_some, cut_take _ i (by rw [List.length_append]; omega), bind1_some, List.take_left' hlt, hgi, List.take_of_length_le (by omega)]
  | succ r ih =>
    intro j hj g i hij hg hgi hgd n hn
    obtain ⟨n, rfl⟩ := dec n (by omega)
    have h1 : j < x9.length := by omega
    have h2 : j < g.length := by omega
    obtain ⟨hgj, hgd'⟩ := drop_at h1 h2 hgd
    obtain ⟨v0, v1⟩ := hx x9[j] (List.getElem_mem h1)
    rw [m10_run_Serial_L1, m10_run_Serial_L1B, if_pos (by omega), m10_run_Serial_K7, idx_ok h2, bind1_some, hgj, tab_idxA v0 v1, bind1_some, m10_run_Serial_K8]
    by_cases c : T x9[j] = true
    · have hil : i < g.length := by omega
      rw [if_neg (by simp [c]), idx_ok hil, bind1_some, upd_ok _ hil, bind1_some, isucc i (by omega), bind1_some, isucc j (by omega), bind1_some]
      refine ih (j + 1) (by omega) _ (i + 1) (by omega) (by simpa using hg) ?_ ?_ n (by omega)
      · rw [take_snoc (by simpa using hil), List.getElem_set_self, List.take_set_of_le (Nat.le_refl _), hgi, take_snoc h1, List.filter_append]
        simp [c]
      · rw [List.drop_set_of_lt (by omega)]
        exact hgd'
    · rw [if_pos (by simp [c]), isucc j (by omega), bind1_some]
      refine ih (j + 1) (by omega) g i (by omega) hg ?_ hgd' n (by omega)
      rw [hgi, take_snoc h1, List.filter_append]
      simp [c]
theorem sdel (T : Int → Bool) (x9 : List Int) (hx : ∀ v ∈ x9, 0 ≤ v ∧ v < 12) (hlen : x9.length ≤ 200) : ∀ (r i : Nat), i + r = x9.length → (∀ v ∈ x9.take i, T v = true) → ∀ n, r < n →
    m10_run_Serial_L2 x9 (tab 12 T) n (i : Int) = m10_run_Serial_K3 (x9.filter T) := by
  intro r
  induction r with
  | zero =>
    intro i hi hall n hn
    obtain ⟨n, rfl⟩ := dec n hn
    rw [m10_run_Serial_L2, m10_run_Serial_L2B, if_neg (by omega), m10_run_Serial_K9, m10_run_Serial_K4, if_pos rfl]
    rw [List.take_of_length_le (by omega)] at hall
    rw [List.filter_eq_self.2 hall]
  | succ r ih =>
    intro i hi hall n hn
    obtain ⟨n, rfl⟩ := dec n (by omega)
    have h1 : i < x9.length := by omega
    obtain ⟨v0, v1⟩ := hx x9[i] (List.getElem_mem h1)
    rw [m10_run_Serial_L2, m10_run_Serial_L2B, if_pos (by omega), idx_ok h1, bind1_some, tab_idxA v0 v1, bind1_some, m10_run_Serial_K10]
    by_cases c : T x9[i] = true
    · rw [if_neg (by simp [c]), isucc i (by omega), bind1_some]
      refine ih (i + 1) (by omega) (fun u hu => ?_) n (by omega)
      rw [take_snoc h1, List.mem_append, List.mem_singleton] at hu
      rcases hu with h | rfl
      · exact hall u h
      · exact c
    · rw [if_pos (by simp [c]), m10_run_Serial_K4, if_neg (by omega), m10_run_Serial_K5, isucc i (by omega), bind1_some]
      refine sdel1 T x9 hx hlen r (i + 1) (by omega) x9 i (by omega) rfl ?_ rfl big (lt_big (by omega))
      rw [take_snoc h1, List.filter_append, List.filter_eq_self.2 hall]
      simp [c]
theorem those_eq (l : List TOp) (hl : l.length ≤ 200) (z : List Int) (hz : z.length ≤ 12) (b : Bool) : ∀ (r i : Nat), i + r = z.length → ∀ acc : List Int, acc.length ≤ i → ∀ n, r < n →
    m13_quirref_Serial_L1 z l b n acc (i : Int) = some (acc ++ (z.drop i).filter (en l 3), b) := by
  intro r
  induction r with
  | zero =>
    intro i hi acc hacc n hn
    obtain ⟨n, rfl⟩ := dec n hn
    rw [m13_quirref_Serial_L1, m13_quirref_Serial_L1B, if_neg (by omega), m13_quirref_Serial_K2, m13_quirref_Serial_K1, List.drop_eq_nil_of_le (by omega)]
    simp
  | succ r ih =>
    intro i hi acc hacc n hn
    obtain ⟨n, rfl⟩ := dec n (by omega)
    have h1 : i < z.length := by omega
    rw [m13_quirref_Serial_L1, m13_quirref_Serial_L1B, if_pos (by omega), idx_ok h1, bind1_some, has_eq l _ _ (by omega), bind1_some, m13_quirref_Serial_K3, drop_cons h1, List.filter_cons]
    by_cases c : en l 3 z[i] = true
    · rw [if_pos (show decide _ = true from c), app_ok (by simp; omega), bind1_some, isucc i (by omega), bind1_some, ih (i + 1) (by omega) _ (by simp; omega) n (by omega), if_pos c, List.append_assoc]
      rfl
    · rw [if_neg (show ¬decide _ = true from c), isucc i (by omega), bind1_some, ih (i + 1) (by omega) _ (by omega) n (by omega), if_neg c]
theorem serial_eq (l : List TOp) (hg : Good l) : ∃ z ok, m10_run_Serial_K1 (eds l) l = some (z, if ok = true then 0 else 11) ∧ m13_quirref_Serial l = some (z, ok) ∧ z.length ≤ 12 ∧ (ok = false → z = []) := by
  obtain ⟨z, ok, h1, h2, h3, h4, hnil⟩ := order_eq 12 (by omega) (eds l) (by have := eds_len l; omega) (eds_in l)
  rw [show ((12 : Nat) : Int) = 12 from rfl] at h1 h2
  have h5 := those_eq l hg.len z h4 ok z.length 0 (by omega) [] (by simp) big (lt_big (by omega))
  rw [show ((0 : Nat) : Int) = 0 from rfl, List.drop_zero, List.nil_append] at h5
  have hf : (z.filter (en l 3)).length ≤ 12 := Nat.le_trans (List.length_filter_le _ _) h4
  cases ok with
  | true =>
    refine ⟨z.filter (en l 3), true, ?_, ?_, hf, by simp⟩
    · have h6 := sdel (en l 3) z (fun v hv => h3 v hv) (by omega) z.length 0 (by omega) (by simp) big (lt_big (by omega))
      rw [show ((0 : Nat) : Int) = 0 from rfl] at h6
      rw [m10_run_Serial_K1, h1, bind2_some, if_pos rfl, if_neg (by simp), m10_run_Serial_K2, ended_eq l hg, bind1_some, arrN_ok (by simp), bind1_some, arrN_ok (tab_length ..), bind1_some, h6, m10_run_Serial_K3]
    · rw [m13_quirref_Serial, edges_ref l hg, bind1_some, h2, bind2_some, h5]
  | false =>
    have hz : z = [] := hnil rfl
    refine ⟨[], false, ?_, ?_, by simp, fun _ => rfl⟩
    · rw [m10_run_Serial_K1, h1, bind2_some, if_neg ff, if_pos (by simp)]
    · rw [hz, List.filter_nil] at h5
      rw [m13_quirref_Serial, edges_ref l hg, bind1_some, h2, bind2_some, hz, h5]
end Go.Proofs.Ytkhlapdkomnldaa
