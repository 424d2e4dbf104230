/-
  Package pact: what the models say.
  Conditions: none.
-/
import Derived.Test.YtfmgjigdebofaaaPcM
import Derived.Test.YtfmgjigdebofaaaK
namespace Go.Proofs.Ytfmgjigdebofaaa
open Go.S
set_option linter.unusedVariables false
set_option linter.unusedSimpArgs false
theorem idx_at {l : List Int} {i : Nat} (h : i < l.length) : idx l (i : Int) = some l[i] := idx_ok h
theorem dec (n : Nat) (h : 0 < n) : ∃ q, n = q + 1 := ⟨n - 1, by omega⟩

/-! ### Lists held against one another -/
theorem equalLoop (a b : List Int) (hab : a.length = b.length) (hl : a.length ≤ 1099511627776) : ∀ (r i : Nat), i + r = a.length → ∀ n, r < n → m71_slices_Equal_int_L1 a b n (i : Int) = some (decide (a.drop i = b.drop i)) := by
  intro r
  induction r with
  | zero =>
    intro i hi n hn
    obtain ⟨n, rfl⟩ := dec n hn
    rw [m71_slices_Equal_int_L1, m71_slices_Equal_int_L1B, if_neg (by omega), m71_slices_Equal_int_K2, List.drop_eq_nil_of_le (by omega), List.drop_eq_nil_of_le (by omega)]
    rfl
  | succ r ih =>
    intro i hi n hn
    obtain ⟨n, rfl⟩ := dec n (by omega)
    have h1 : i < a.length := by omega
    have h2 : i < b.length := by omega
    rw [m71_slices_Equal_int_L1, m71_slices_Equal_int_L1B, if_pos (by omega), idx_at h1, idx_at h2, bind1_some, bind1_some]
    rw [List.drop_eq_getElem_cons h1, List.drop_eq_getElem_cons h2]
    by_cases h : a[i] = b[i]
    · rw [if_neg (by simpa using h), i64_ok (by omega) (by omega), bind1_some, show ((i : Int) + 1) = ((i + 1 : Nat) : Int) by omega, ih (i + 1) (by omega) n (by omega)]
      simp only [List.cons.injEq, h, true_and]
    · rw [if_pos h]
      simp only [List.cons.injEq, h, false_and, decide_false]
theorem equal_eq (a b : List Int) (hl : a.length ≤ 1099511627776) : m71_slices_Equal_int a b = some (decide (a = b)) := by
  simp only [m71_slices_Equal_int]
  by_cases h : a.length = b.length
  · rw [if_neg (by omega), m71_slices_Equal_int_K1]
    have := equalLoop a b h hl a.length 0 (by omega) big (by rw [big_eq]; omega)
    simpa using this
  · rw [if_pos (by omega)]
    have : a ≠ b := fun e => h (by rw [e])
    simp [this]
theorem same_eq (x y : TPact) (h1 : x.Votes.length ≤ 1099511627776) (h2 : x.Parts.length ≤ 1099511627776) : m76_quirref_SamePact x y = some (decide (x = y)) := by
  simp only [m76_quirref_SamePact, m76_quirref_SamePact_K1, equal_eq _ _ h1, equal_eq _ _ h2, bind1_some]
  cases x with | mk l v p =>
  cases y with | mk l' v' p' =>
  simp only [TPact.mk.injEq]
  by_cases e1 : l = l' <;> by_cases e2 : v = v' <;> by_cases e3 : p = p' <;> simp [e1, e2, e3]

/-! ### Check -/
theorem containsLoop (P : TPact) (ab un : Int) (hl : P.Votes.length ≤ 1099511627776) : ∀ (r i : Nat), i + r = P.Votes.length → ∀ n, r < n →
    m73_quirref_PactErr_L1 P ab un n (i : Int) = m73_quirref_PactErr_K8 P ab un (decide (∃ v ∈ P.Votes.drop i, v ≠ 1)) := by
  intro r
  induction r with
  | zero =>
    intro i hi n hn
    obtain ⟨n, rfl⟩ := dec n hn
    rw [m73_quirref_PactErr_L1, m73_quirref_PactErr_L1B, if_neg (by omega), m73_quirref_PactErr_K10, m73_quirref_PactErr_K9, List.drop_eq_nil_of_le (by omega)]
    simp
  | succ r ih =>
    intro i hi n hn
    obtain ⟨n, rfl⟩ := dec n (by omega)
    have h1 : i < P.Votes.length := by omega
    rw [m73_quirref_PactErr_L1, m73_quirref_PactErr_L1B, if_pos (by omega), idx_at h1, bind1_some, m73_quirref_PactErr_K11, List.drop_eq_getElem_cons h1]
    have hx : (∃ v ∈ P.Votes[i] :: P.Votes.drop (i + 1), v ≠ 1) ↔ (P.Votes[i] ≠ 1 ∨ ∃ v ∈ P.Votes.drop (i + 1), v ≠ 1) := by
      simp only [List.mem_cons, exists_eq_or_imp]
    by_cases h : P.Votes[i] = 1
    · rw [if_neg (by simpa using h), i64_ok (by omega) (by omega), bind1_some, show ((i : Int) + 1) = ((i + 1 : Nat) : Int) by omega, ih (i + 1) (by omega) n (by omega)]
      have hy : (∃ v ∈ P.Votes[i] :: P.Votes.drop (i + 1), v ≠ 1) ↔ ∃ v ∈ P.Votes.drop (i + 1), v ≠ 1 := hx.trans ⟨fun q => q.resolve_left (fun q => q h), .inr⟩
      rw [decide_eq_decide.2 hy]
    · rw [if_pos (by simpa using h), m73_quirref_PactErr_K9, decide_eq_true (hx.2 (.inl h)), decide_eq_true (by omega)]
theorem endCheck (P : TPact) (ab un : Nat) (all : Bool) : m77_pact_Check_K2 P all (decide (0 < un)) (decide (0 < ab)) = m73_quirref_PactErr_K8 P (ab : Int) (un : Int) (!all) := by
  have e1 : (0 < (ab : Int)) = (0 < ab) := by apply propext; omega
  have e2 : ((un : Int) = 0) = (¬ 0 < un) := by apply propext; omega
  simp only [m77_pact_Check_K2, m77_pact_Check_K3, m77_pact_Check_K4, m73_quirref_PactErr_K8, m73_quirref_PactErr_K3, m73_quirref_PactErr_K4, m73_quirref_PactErr_K5, m73_quirref_PactErr_K6, m73_quirref_PactErr_K7, e1, e2]
  by_cases h1 : P.Lead = 1 <;> by_cases h0 : P.Lead = 0 <;> by_cases ha : 0 < ab <;> by_cases hu : 0 < un <;> cases all <;> simp_all
theorem checkLoop (P : TPact) (hn : P.Parts.length ≤ 8) (hv : P.Votes.length = P.Parts.length) : ∀ (r i : Nat), i + r = P.Parts.length → ∀ (ab un : Nat), ab ≤ i → un ≤ i → ∀ n n', r < n → r < n' →
    m77_pact_Check_L1 P n ((P.Votes.take i).all fun v => decide (v = 1)) (decide (0 < un)) (decide (0 < ab)) (i : Int) = m73_quirref_PactErr_L2 P n' (ab : Int) (un : Int) (i : Int) := by
  intro r
  induction r with
  | zero =>
    intro i hi ab un _ _ n n' hn hn'
    obtain ⟨n, rfl⟩ := dec n hn
    obtain ⟨n', rfl⟩ := dec n' hn'
    rw [m77_pact_Check_L1, m77_pact_Check_L1B, m73_quirref_PactErr_L2, m73_quirref_PactErr_L2B, if_neg (by omega), if_neg (by omega), m73_quirref_PactErr_K2]
    have := containsLoop P ab un (by omega) P.Votes.length 0 (by omega) big (by rw [big_eq]; omega)
    rw [show ((0 : Nat) : Int) = 0 by rfl] at this
    rw [this, endCheck, List.drop_zero, List.take_of_length_le (by omega)]
    congr 1
    cases h : P.Votes.all fun v => decide (v = 1) with
    | true =>
      have h' : ¬ ∃ v ∈ P.Votes, v ≠ 1 := fun ⟨v, hv, hne⟩ => hne (by simpa using List.all_eq_true.1 h v hv)
      rw [decide_eq_false h']; rfl
    | false =>
      have h' : ∃ v ∈ P.Votes, v ≠ 1 := by simpa using h
      rw [decide_eq_true h']; rfl
  | succ r ih =>
    intro i hi ab un hab hun n n' hn hn'
    obtain ⟨n, rfl⟩ := dec n (by omega)
    obtain ⟨n', rfl⟩ := dec n' (by omega)
    have h1 : i < P.Parts.length := by omega
    have h2 : i < P.Votes.length := by omega
    rw [m77_pact_Check_L1, m77_pact_Check_L1B, m73_quirref_PactErr_L2, m73_quirref_PactErr_L2B, if_pos (by omega), if_pos (by omega), idx_at h1, idx_at h2, bind1_some, bind1_some, bind1_some, bind1_some]
    have htake : ((P.Votes.take (i + 1)).all fun v => decide (v = 1)) = (((P.Votes.take i).all fun v => decide (v = 1)) && decide (P.Votes[i] = 1)) := by
      rw [List.take_succ_eq_append_getElem h2, List.all_append]
      simp only [List.all_cons, List.all_nil, Bool.and_true]
    generalize P.Parts[i] = p at *
    generalize P.Votes[i] = v at *
    have i1 : i64 ((i : Int) + 1) = some ((i + 1 : Nat) : Int) := by rw [i64_ok (by omega) (by omega)]; rfl
    have i2 : i64 ((ab : Int) + 1) = some ((ab + 1 : Nat) : Int) := by rw [i64_ok (by omega) (by omega)]; rfl
    have i3 : i64 ((un : Int) + 1) = some ((un + 1 : Nat) : Int) := by rw [i64_ok (by omega) (by omega)]; rfl
    have ih1 := ih (i + 1) (by omega) ab un (by omega) (by omega) n n' (by omega) (by omega)
    have ih2 := ih (i + 1) (by omega) (ab + 1) un (by omega) (by omega) n n' (by omega) (by omega)
    have ih3 := ih (i + 1) (by omega) (ab + 1) (un + 1) (by omega) (by omega) n n' (by omega) (by omega)
    rw [htake] at ih1 ih2 ih3
    generalize ((P.Votes.take i).all fun v => decide (v = 1)) = A at *
    have hc : ∀ go : Bool → Bool → Bool → Int → Option Int, m77_pact_Check_K5 v p P A (decide (0 < ab)) (decide (0 < un)) (i : Int) go = if (v = 2 ∧ p ≠ 3) ∨ (v = 1 ∧ p = 0) ∨ (p = 2 ∧ P.Lead ≠ 1) then some 4 else m77_pact_Check_K6 A v (decide (0 < ab)) (decide (0 < un)) (i : Int) go p := by
      intro go
      simp only [m77_pact_Check_K5, m77_pact_Check_K17, m77_pact_Check_K18, m77_pact_Check_K19]
      by_cases d1 : v = 2 <;> by_cases d2 : p = 3 <;> by_cases d3 : v = 1 <;> by_cases d4 : p = 0 <;> by_cases d5 : p = 2 <;> by_cases d6 : P.Lead = 1 <;> first | omega | simp [d1, d2, d3, d4, d5, d6]
    have hr : ∀ go : Int → Int → Int → Option Int, m73_quirref_PactErr_K13 v p P (ab : Int) (un : Int) (i : Int) go = if (v = 2 ∧ p ≠ 3) ∨ (v = 1 ∧ p = 0) ∨ (p = 2 ∧ P.Lead ≠ 1) then some 4 else m73_quirref_PactErr_K14 p (ab : Int) v (un : Int) (i : Int) go := by
      intro go
      simp only [m73_quirref_PactErr_K13, m73_quirref_PactErr_K15, m73_quirref_PactErr_K16, m73_quirref_PactErr_K17]
      by_cases d1 : v = 2 <;> by_cases d2 : p = 3 <;> by_cases d3 : v = 1 <;> by_cases d4 : p = 0 <;> by_cases d5 : p = 2 <;> by_cases d6 : P.Lead = 1 <;> first | omega | simp [d1, d2, d3, d4, d5, d6]
    simp only [m77_pact_Check_K20, m73_quirref_PactErr_K18, hc, hr]
    by_cases c1 : p < 0
    · simp [c1]
    by_cases c2 : 3 < p
    · simp [c1, c2]
    by_cases c3 : v < 0
    · simp [c1, c2, c3]
    by_cases c4 : 2 < v
    · simp [c1, c2, c3, c4]
    simp only [c1, c2, c3, c4, if_false, Bool.false_eq_true]
    by_cases ce : (v = 2 ∧ p ≠ 3) ∨ (v = 1 ∧ p = 0) ∨ (p = 2 ∧ P.Lead ≠ 1)
    · rw [if_pos ce, if_pos ce]
    rw [if_neg ce, if_neg ce]
    simp only [m77_pact_Check_K6, m77_pact_Check_K16, m77_pact_Check_K11, m77_pact_Check_K7, m77_pact_Check_K15, m77_pact_Check_K8, m77_pact_Check_K12, m77_pact_Check_K9, m77_pact_Check_K10, m77_pact_Check_K13, m77_pact_Check_K14, m73_quirref_PactErr_K14, m73_quirref_PactErr_K12, i1, i2, i3, bind1_some]
    by_cases d2 : p = 3 <;> by_cases d3 : v = 1 <;> by_cases hu : 0 < un <;> by_cases ha : 0 < ab <;> cases A <;> simp [d2, d3, hu, ha] at ih1 ih2 ih3 ⊢ <;> first | exact ih1 | exact ih2 | exact ih3

theorem k8_some (P : TPact) (ab un : Int) (b : Bool) : ∃ e, m73_quirref_PactErr_K8 P ab un b = some e := by
  simp only [m73_quirref_PactErr_K8, m73_quirref_PactErr_K3, m73_quirref_PactErr_K4, m73_quirref_PactErr_K5, m73_quirref_PactErr_K6, m73_quirref_PactErr_K7]
  by_cases h1 : P.Lead = 1 <;> by_cases h0 : P.Lead = 0 <;> by_cases ha : 0 < ab <;> by_cases hu : un = 0 <;> cases b <;> first | omega | simp [h1, h0, ha, hu]
def okAt (P : TPact) (j : Nat) : Prop := ∀ p v, P.Parts[j]? = some p → P.Votes[j]? = some v → 0 ≤ p ∧ p ≤ 3 ∧ 0 ≤ v ∧ v ≤ 2
theorem refTotal (P : TPact) (hn : P.Parts.length ≤ 8) (hv : P.Votes.length = P.Parts.length) : ∀ (r i : Nat), i + r = P.Parts.length → ∀ (ab un : Nat), ab ≤ i → un ≤ i → ∀ n', r < n' →
    ∃ e, m73_quirref_PactErr_L2 P n' (ab : Int) (un : Int) (i : Int) = some e ∧ (e = 0 → ∀ j, i ≤ j → okAt P j) := by
  intro r
  induction r with
  | zero =>
    intro i hi ab un _ _ n' hn'
    obtain ⟨n', rfl⟩ := dec n' hn'
    rw [m73_quirref_PactErr_L2, m73_quirref_PactErr_L2B, if_neg (by omega), m73_quirref_PactErr_K2]
    have := containsLoop P ab un (by omega) P.Votes.length 0 (by omega) big (by rw [big_eq]; omega)
    rw [show ((0 : Nat) : Int) = 0 by rfl] at this
    obtain ⟨e, he⟩ := k8_some P ab un (decide (∃ v ∈ P.Votes.drop 0, v ≠ 1))
    exact ⟨e, this.trans he, fun _ j hj p v hp _ => by have := (List.getElem?_eq_some_iff.1 hp).1; omega⟩
  | succ r ih =>
    intro i hi ab un hab hun n' hn'
    obtain ⟨n', rfl⟩ := dec n' (by omega)
    have h1 : i < P.Parts.length := by omega
    have h2 : i < P.Votes.length := by omega
    rw [m73_quirref_PactErr_L2, m73_quirref_PactErr_L2B, if_pos (by omega), idx_at h1, idx_at h2, bind1_some, bind1_some]
    have hp : P.Parts[i]? = some P.Parts[i] := List.getElem?_eq_getElem h1
    have hq : P.Votes[i]? = some P.Votes[i] := List.getElem?_eq_getElem h2
    generalize P.Parts[i] = p at *
    generalize P.Votes[i] = v at *
    have i1 : i64 ((i : Int) + 1) = some ((i + 1 : Nat) : Int) := by rw [i64_ok (by omega) (by omega)]; rfl
    have i2 : i64 ((ab : Int) + 1) = some ((ab + 1 : Nat) : Int) := by rw [i64_ok (by omega) (by omega)]; rfl
    have i3 : i64 ((un : Int) + 1) = some ((un + 1 : Nat) : Int) := by rw [i64_ok (by omega) (by omega)]; rfl
    have ih1 := ih (i + 1) (by omega) ab un (by omega) (by omega) n' (by omega)
    have ih2 := ih (i + 1) (by omega) (ab + 1) un (by omega) (by omega) n' (by omega)
    have ih3 := ih (i + 1) (by omega) (ab + 1) (un + 1) (by omega) (by omega) n' (by omega)
    have lift : 0 ≤ p → p ≤ 3 → 0 ≤ v → v ≤ 2 → ∀ X : Option Int, (∃ e, X = some e ∧ (e = 0 → ∀ j, i + 1 ≤ j → okAt P j)) → ∃ e, X = some e ∧ (e = 0 → ∀ j, i ≤ j → okAt P j) := by
      rintro a1 a2 a3 a4 X ⟨e, he, hall⟩
      refine ⟨e, he, fun h0 j hj => ?_⟩
      by_cases hij : j = i
      · subst hij
        intro p' v' hp' hv'
        rw [hp, Option.some.injEq] at hp'
        rw [hq, Option.some.injEq] at hv'
        subst hp'; subst hv'
        exact ⟨a1, a2, a3, a4⟩
      · exact hall h0 j (by omega)
    have hr : ∀ go : Int → Int → Int → Option Int, m73_quirref_PactErr_K13 v p P (ab : Int) (un : Int) (i : Int) go = if (v = 2 ∧ p ≠ 3) ∨ (v = 1 ∧ p = 0) ∨ (p = 2 ∧ P.Lead ≠ 1) then some 4 else m73_quirref_PactErr_K14 p (ab : Int) v (un : Int) (i : Int) go := by
      intro go
      simp only [m73_quirref_PactErr_K13, m73_quirref_PactErr_K15, m73_quirref_PactErr_K16, m73_quirref_PactErr_K17]
      by_cases d1 : v = 2 <;> by_cases d2 : p = 3 <;> by_cases d3 : v = 1 <;> by_cases d4 : p = 0 <;> by_cases d5 : p = 2 <;> by_cases d6 : P.Lead = 1 <;> first | omega | simp [d1, d2, d3, d4, d5, d6]
    simp only [m73_quirref_PactErr_K18, hr]
    by_cases c1 : p < 0
    · exact ⟨1, by simp [c1], by omega⟩
    by_cases c2 : 3 < p
    · exact ⟨1, by simp [c1, c2], by omega⟩
    by_cases c3 : v < 0
    · exact ⟨1, by simp [c1, c2, c3], by omega⟩
    by_cases c4 : 2 < v
    · exact ⟨1, by simp [c1, c2, c3, c4], by omega⟩
    simp only [c1, c2, c3, c4, if_false, Bool.false_eq_true]
    by_cases ce : (v = 2 ∧ p ≠ 3) ∨ (v = 1 ∧ p = 0) ∨ (p = 2 ∧ P.Lead ≠ 1)
    · rw [if_pos ce]; exact ⟨4, rfl, by omega⟩
    rw [if_neg ce]
    simp only [m73_quirref_PactErr_K14, m73_quirref_PactErr_K12, i1, i2, i3, bind1_some]
    refine lift (by omega) (by omega) (by omega) (by omega) _ ?_
    by_cases d2 : p = 3
    · by_cases d3 : v = 1
      · rw [if_pos d2, if_neg (by omega)]; exact ih2
      · rw [if_pos d2, if_pos d3]; exact ih3
    · rw [if_neg d2]; exact ih1
structure Valid (P : TPact) : Prop where
  n1 : 1 ≤ P.Parts.length
  n8 : P.Parts.length ≤ 8
  votes : P.Votes.length = P.Parts.length
  lead0 : 0 ≤ P.Lead
  lead2 : P.Lead ≤ 2
  ok : ∀ j, okAt P j
theorem check_eq (P : TPact) : ∃ e, m77_pact_Check P = some e ∧ m73_quirref_PactErr P = some e ∧ (e = 0 → Valid P) := by
  simp only [m77_pact_Check, m73_quirref_PactErr, m77_pact_Check_K21, m77_pact_Check_K22, m73_quirref_PactErr_K19, m73_quirref_PactErr_K20]
  by_cases h1 : (P.Parts.length : Int) < 1
  · exact ⟨1, by simp [h1], by simp [h1], by omega⟩
  by_cases h2 : (8 : Int) < P.Parts.length
  · exact ⟨1, by simp [h1, h2], by simp [h1, h2], by omega⟩
  by_cases h3 : (P.Votes.length : Int) ≠ P.Parts.length
  · exact ⟨1, by simp [h1, h2, h3], by simp [h1, h2, h3], by omega⟩
  by_cases h4 : P.Lead < 0
  · exact ⟨1, by simp [h1, h2, h3, h4], by simp [h1, h2, h3, h4], by omega⟩
  by_cases h5 : 2 < P.Lead
  · exact ⟨1, by simp [h1, h2, h3, h4, h5], by simp [h1, h2, h3, h4, h5], by omega⟩
  have hv : P.Votes.length = P.Parts.length := by omega
  obtain ⟨e, g1, g2⟩ := refTotal P (by omega) hv P.Parts.length 0 (by omega) 0 0 (by omega) (by omega) big (by rw [big_eq]; omega)
  have g3 := checkLoop P (by omega) hv P.Parts.length 0 (by omega) 0 0 (by omega) (by omega) big big (by rw [big_eq]; omega) (by rw [big_eq]; omega)
  rw [g1] at g3
  simp at g1 g3
  refine ⟨e, ?_, ?_, fun h0 => ⟨by omega, by omega, hv, by omega, by omega, fun j => g2 h0 j (by omega)⟩⟩
  · simp only [h1, h2, h3, h4, h5, if_false, Bool.false_eq_true, m77_pact_Check_K1]
    exact g3
  · simp only [h1, h2, h3, h4, h5, if_false, Bool.false_eq_true, m73_quirref_PactErr_K1]
    exact g1

/-! ### Step -/
theorem clone_eq (l : List Int) (h : l.length ≤ 1099511627776) : m104_slices_Clone_int l = some l := by
  simp only [m104_slices_Clone_int]
  rw [app_ok (by simpa using h), bind1_some, List.nil_append]
theorem upd_ok {α : Type} {l : List α} {i : Nat} (x : α) (h : i < l.length) : upd l (i : Int) x = some (l.set i x) := by
  unfold upd
  rw [if_pos ⟨by omega, by omega⟩, Int.toNat_natCast]
theorem containsEq (l : List Int) (a : Int) (hl : l.length ≤ 1099511627776) : ∀ (r i : Nat), i + r = l.length → ∀ n, r < n → ∃ k, m121_slices_Index_int_L1 l a n (i : Int) = some k ∧ (0 ≤ k ↔ a ∈ l.drop i) := by
  intro r
  induction r with
  | zero =>
    intro i hi n hn
    obtain ⟨n, rfl⟩ := dec n hn
    rw [m121_slices_Index_int_L1, m121_slices_Index_int_L1B, if_neg (by omega), m121_slices_Index_int_K1, List.drop_eq_nil_of_le (by omega)]
    exact ⟨_, rfl, by simp⟩
  | succ r ih =>
    intro i hi n hn
    obtain ⟨n, rfl⟩ := dec n (by omega)
    have h1 : i < l.length := by omega
    rw [m121_slices_Index_int_L1, m121_slices_Index_int_L1B, if_pos (by omega), idx_at h1, bind1_some, List.drop_eq_getElem_cons h1]
    by_cases h : a = l[i]
    · rw [if_pos h]
      exact ⟨_, rfl, by simp only [List.mem_cons, h, true_or, iff_true]; omega⟩
    · rw [if_neg h, i64_ok (by omega) (by omega), bind1_some, show ((i : Int) + 1) = ((i + 1 : Nat) : Int) by omega]
      obtain ⟨k, h2, h3⟩ := ih (i + 1) (by omega) n (by omega)
      exact ⟨k, h2, by simp only [List.mem_cons, h, false_or, h3]⟩
theorem contains_eq (l : List Int) (a : Int) (hl : l.length ≤ 1099511627776) : m134_slices_Contains_int l a = some (decide (a ∈ l)) := by
  obtain ⟨k, h1, h2⟩ := containsEq l a hl l.length 0 (by omega) big (by rw [big_eq]; omega)
  rw [show ((0 : Nat) : Int) = 0 by rfl] at h1
  simp only [m134_slices_Contains_int, m121_slices_Index_int, h1, bind1_some]
  rw [decide_eq_decide.2 (by simpa using h2)]
theorem minLoop (l : List Int) (hl : l.length ≤ 1099511627776) : ∀ (r i : Nat), i + r = l.length → ∀ n, r < n → ∀ m, ∃ k, m135_slices_Min_int_L1 l n m (i : Int) = some k ∧ k ≤ m ∧ (∀ x ∈ l.drop i, k ≤ x) ∧ (k = m ∨ k ∈ l.drop i) := by
  intro r
  induction r with
  | zero =>
    intro i hi n hn m
    obtain ⟨n, rfl⟩ := dec n hn
    rw [m135_slices_Min_int_L1, m135_slices_Min_int_L1B, if_neg (by omega), m135_slices_Min_int_K2, List.drop_eq_nil_of_le (by omega)]
    exact ⟨_, rfl, by omega, by simp, .inl rfl⟩
  | succ r ih =>
    intro i hi n hn m
    obtain ⟨n, rfl⟩ := dec n (by omega)
    have h1 : i < l.length := by omega
    rw [m135_slices_Min_int_L1, m135_slices_Min_int_L1B, if_pos (by omega), idx_at h1, bind1_some, List.drop_eq_getElem_cons h1, i64_ok (by omega) (by omega), bind1_some, show ((i : Int) + 1) = ((i + 1 : Nat) : Int) by omega]
    obtain ⟨k, h2, h3, h4, h5⟩ := ih (i + 1) (by omega) n (by omega) (min m l[i])
    refine ⟨k, h2, by omega, fun x hx => ?_, ?_⟩
    · rcases List.mem_cons.1 hx with rfl | hx
      · omega
      · exact h4 x hx
    · rcases h5 with h5 | h5
      · by_cases hm : m ≤ l[i]
        · left; omega
        · right; rw [List.mem_cons]; left; omega
      · right; exact List.mem_cons_of_mem _ h5
theorem min_eq (l : List Int) (hl : l.length ≤ 1099511627776) (h0 : 1 ≤ l.length) : ∃ k, m135_slices_Min_int l = some k ∧ (∀ x ∈ l, k ≤ x) ∧ k ∈ l := by
  have h1 : 0 < l.length := by omega
  obtain ⟨k, h2, h3, h4, h5⟩ := minLoop l hl (l.length - 1) 1 (by omega) big (by rw [big_eq]; omega) l[0]
  have hd : l = l[0] :: l.drop 1 := by have := List.drop_eq_getElem_cons h1; simpa using this
  refine ⟨k, ?_, fun x hx => ?_, ?_⟩
  · simp only [m135_slices_Min_int, m135_slices_Min_int_K1]
    rw [if_neg (by omega), show (0 : Int) = ((0 : Nat) : Int) by rfl, idx_at h1, bind1_some]
    exact h2
  · rw [hd] at hx
    rcases List.mem_cons.1 hx with rfl | hx
    · exact h3
    · exact h4 x hx
  · rw [hd]
    rcases h5 with rfl | h5
    · exact List.mem_cons_self
    · exact List.mem_cons_of_mem _ h5

set_option maxHeartbeats 4000000 in
theorem step_eq (P : TPact) (b : TBeat) (hV : Valid P) (w0 : 0 ≤ b.Who) (w1 : b.Who < P.Parts.length) (y0 : 0 ≤ b.By) (y1 : b.By < P.Parts.length) (k0 : 1 ≤ b.Kind) (k1 : b.Kind ≤ 7) :
    ∃ Q, m74_pact_Step_K2 P b = some (Q, 0) ∧ m80_quirref_PactStep P b = some Q ∧ Q.Votes.length ≤ 8 ∧ Q.Parts.length ≤ 8 := by
  obtain ⟨kind, who, by'⟩ := b
  simp only at *
  obtain ⟨i, rfl⟩ := Int.eq_ofNat_of_zero_le w0
  obtain ⟨j, rfl⟩ := Int.eq_ofNat_of_zero_le y0
  have hn8 := hV.n8
  have hv := hV.votes
  have hi : i < P.Parts.length := by omega
  have hj : j < P.Parts.length := by omega
  have hiv : i < P.Votes.length := by omega
  have ok1 := hV.ok i _ _ (List.getElem?_eq_getElem hi) (List.getElem?_eq_getElem hiv)
  have ok2 := hV.ok j _ _ (List.getElem?_eq_getElem hj) (List.getElem?_eq_getElem (show j < P.Votes.length by omega))
  have c1 := clone_eq P.Votes (by omega)
  have c2 := clone_eq P.Parts (by omega)
  have e1 := idx_at hi
  have e2 := idx_at hj
  have e3 := idx_at hiv
  have u1 : ∀ x, upd P.Parts (i : Int) x = some (P.Parts.set i x) := fun x => upd_ok x hi
  have u2 : ∀ x, upd P.Votes (i : Int) x = some (P.Votes.set i x) := fun x => upd_ok x hiv
  have u3 : ∀ x, upd P.Parts (j : Int) x = some (P.Parts.set j x) := fun x => upd_ok x hj
  generalize hp : P.Parts[i] = p at *
  generalize hq : P.Parts[j] = q at *
  generalize hvv : P.Votes[i] = v at *
  have hl0 := hV.lead0
  have hl2 := hV.lead2
  simp only [m74_pact_Step_K2, m80_quirref_PactStep, c1, c2, bind1_some, m74_pact_Step_K3, m80_quirref_PactStep_K1, e1, e2]
  have hv8 : P.Votes.length ≤ 8 := by omega
  have w1' : idx (P.Votes.set i 0) (i : Int) = some 0 := by rw [idx_ok (by simpa using hiv)]; simp
  have x1 : i ≠ j → idx (P.Parts.set j 3) (i : Int) = some p := fun hne => by rw [idx_ok (by simpa using hi)]; simp [Ne.symm hne, hp]
  have x2 : i ≠ j → idx (P.Parts.set i 3) (j : Int) = some q := fun hne => by rw [idx_ok (by simpa using hj)]; simp [hne, hq]
  have x3 : upd (P.Parts.set j 3) (i : Int) 3 = some ((P.Parts.set j 3).set i 3) := upd_ok _ (by simpa using hi)
  have x4 : upd (P.Parts.set i 3) (j : Int) 3 = some ((P.Parts.set i 3).set j 3) := upd_ok _ (by simpa using hj)
  have x5 : i ≠ j → (P.Parts.set j 3).set i 3 = (P.Parts.set i 3).set j 3 := fun hne => List.set_comm _ _ (Ne.symm hne)
  have q2 := contains_eq P.Votes 2 (by omega)
  have q0 := contains_eq P.Votes 0 (by omega)
  have hk : kind = 1 ∨ kind = 2 ∨ kind = 3 ∨ kind = 4 ∨ kind = 5 ∨ kind = 6 ∨ kind = 7 := by omega
  have hld : P.Lead = 0 ∨ P.Lead = 1 ∨ P.Lead = 2 := by omega
  have hpp : p = 0 ∨ p = 1 ∨ p = 2 ∨ p = 3 := by omega
  have hqq : q = 0 ∨ q = 1 ∨ q = 2 ∨ q = 3 := by omega
  have hvvv : v = 0 ∨ v = 1 ∨ v = 2 := by omega
  have hij : (i : Int) = (j : Int) ↔ i = j := by omega
  have i64a : i64 2 = some 2 := i64_ok (by omega) (by omega)
  have i64b : i64 3 = some 3 := i64_ok (by omega) (by omega)
  clear ok1 ok2 c1 c2
  rcases hk with rfl | rfl | rfl | rfl | rfl | rfl | rfl
  · rcases hpp with rfl | rfl | rfl | rfl <;> rcases hld with hld | hld | hld <;> simp [m74_pact_Step_K5, m74_pact_Step_K9, m74_pact_Step_K12, m74_pact_Step_K11, m74_pact_Step_K10, m74_pact_Step_K13, m74_pact_Step_K14, m74_pact_Step_K15, m74_pact_Step_K8, m74_pact_Step_K16, m74_pact_Step_K7, m74_pact_Step_K17, m74_pact_Step_K18, m74_pact_Step_K6, m74_pact_Step_K19, m74_pact_Step_K23, m74_pact_Step_K26, m74_pact_Step_K25, m74_pact_Step_K24, m74_pact_Step_K27, m74_pact_Step_K28, m74_pact_Step_K29, m74_pact_Step_K22, m74_pact_Step_K30, m74_pact_Step_K21, m74_pact_Step_K31, m74_pact_Step_K32, m74_pact_Step_K20, m74_pact_Step_K4, m74_pact_Step_K3, m80_quirref_PactStep_K3, m80_quirref_PactStep_K13, m80_quirref_PactStep_K12, m80_quirref_PactStep_K16, m80_quirref_PactStep_K15, m80_quirref_PactStep_K14, m80_quirref_PactStep_K11, m80_quirref_PactStep_K10, m80_quirref_PactStep_K9, m80_quirref_PactStep_K8, m80_quirref_PactStep_K7, m80_quirref_PactStep_K6, m80_quirref_PactStep_K5, m80_quirref_PactStep_K4, m80_quirref_PactStep_K17, m80_quirref_PactStep_K27, m80_quirref_PactStep_K26, m80_quirref_PactStep_K30, m80_quirref_PactStep_K29, m80_quirref_PactStep_K28, m80_quirref_PactStep_K25, m80_quirref_PactStep_K24, m80_quirref_PactStep_K31, m80_quirref_PactStep_K23, m80_quirref_PactStep_K22, m80_quirref_PactStep_K32, m80_quirref_PactStep_K38, m80_quirref_PactStep_K37, m80_quirref_PactStep_K41, m80_quirref_PactStep_K40, m80_quirref_PactStep_K39, m80_quirref_PactStep_K36, m80_quirref_PactStep_K35, m80_quirref_PactStep_K42, m80_quirref_PactStep_K34, m80_quirref_PactStep_K33, m80_quirref_PactStep_K43, m80_quirref_PactStep_K21, m80_quirref_PactStep_K20, m80_quirref_PactStep_K19, m80_quirref_PactStep_K18, m80_quirref_PactStep_K2, e1, u1, hld, hn8, hv8]
  · rcases hpp with rfl | rfl | rfl | rfl <;> rcases hld with hld | hld | hld <;> simp [m74_pact_Step_K5, m74_pact_Step_K9, m74_pact_Step_K12, m74_pact_Step_K11, m74_pact_Step_K10, m74_pact_Step_K13, m74_pact_Step_K14, m74_pact_Step_K15, m74_pact_Step_K8, m74_pact_Step_K16, m74_pact_Step_K7, m74_pact_Step_K17, m74_pact_Step_K18, m74_pact_Step_K6, m74_pact_Step_K19, m74_pact_Step_K23, m74_pact_Step_K26, m74_pact_Step_K25, m74_pact_Step_K24, m74_pact_Step_K27, m74_pact_Step_K28, m74_pact_Step_K29, m74_pact_Step_K22, m74_pact_Step_K30, m74_pact_Step_K21, m74_pact_Step_K31, m74_pact_Step_K32, m74_pact_Step_K20, m74_pact_Step_K4, m74_pact_Step_K3, m80_quirref_PactStep_K3, m80_quirref_PactStep_K13, m80_quirref_PactStep_K12, m80_quirref_PactStep_K16, m80_quirref_PactStep_K15, m80_quirref_PactStep_K14, m80_quirref_PactStep_K11, m80_quirref_PactStep_K10, m80_quirref_PactStep_K9, m80_quirref_PactStep_K8, m80_quirref_PactStep_K7, m80_quirref_PactStep_K6, m80_quirref_PactStep_K5, m80_quirref_PactStep_K4, m80_quirref_PactStep_K17, m80_quirref_PactStep_K27, m80_quirref_PactStep_K26, m80_quirref_PactStep_K30, m80_quirref_PactStep_K29, m80_quirref_PactStep_K28, m80_quirref_PactStep_K25, m80_quirref_PactStep_K24, m80_quirref_PactStep_K31, m80_quirref_PactStep_K23, m80_quirref_PactStep_K22, m80_quirref_PactStep_K32, m80_quirref_PactStep_K38, m80_quirref_PactStep_K37, m80_quirref_PactStep_K41, m80_quirref_PactStep_K40, m80_quirref_PactStep_K39, m80_quirref_PactStep_K36, m80_quirref_PactStep_K35, m80_quirref_PactStep_K42, m80_quirref_PactStep_K34, m80_quirref_PactStep_K33, m80_quirref_PactStep_K43, m80_quirref_PactStep_K21, m80_quirref_PactStep_K20, m80_quirref_PactStep_K19, m80_quirref_PactStep_K18, m80_quirref_PactStep_K2, e1, u1, hld, hn8, hv8]
  · rcases hpp with rfl | rfl | rfl | rfl <;> rcases hld with hld | hld | hld <;> rcases hvvv with rfl | rfl | rfl <;> simp [m74_pact_Step_K5, m74_pact_Step_K9, m74_pact_Step_K12, m74_pact_Step_K11, m74_pact_Step_K10, m74_pact_Step_K13, m74_pact_Step_K14, m74_pact_Step_K15, m74_pact_Step_K8, m74_pact_Step_K16, m74_pact_Step_K7, m74_pact_Step_K17, m74_pact_Step_K18, m74_pact_Step_K6, m74_pact_Step_K19, m74_pact_Step_K23, m74_pact_Step_K26, m74_pact_Step_K25, m74_pact_Step_K24, m74_pact_Step_K27, m74_pact_Step_K28, m74_pact_Step_K29, m74_pact_Step_K22, m74_pact_Step_K30, m74_pact_Step_K21, m74_pact_Step_K31, m74_pact_Step_K32, m74_pact_Step_K20, m74_pact_Step_K4, m74_pact_Step_K3, m80_quirref_PactStep_K3, m80_quirref_PactStep_K13, m80_quirref_PactStep_K12, m80_quirref_PactStep_K16, m80_quirref_PactStep_K15, m80_quirref_PactStep_K14, m80_quirref_PactStep_K11, m80_quirref_PactStep_K10, m80_quirref_PactStep_K9, m80_quirref_PactStep_K8, m80_quirref_PactStep_K7, m80_quirref_PactStep_K6, m80_quirref_PactStep_K5, m80_quirref_PactStep_K4, m80_quirref_PactStep_K17, m80_quirref_PactStep_K27, m80_quirref_PactStep_K26, m80_quirref_PactStep_K30, m80_quirref_PactStep_K29, m80_quirref_PactStep_K28, m80_quirref_PactStep_K25, m80_quirref_PactStep_K24, m80_quirref_PactStep_K31, m80_quirref_PactStep_K23, m80_quirref_PactStep_K22, m80_quirref_PactStep_K32, m80_quirref_PactStep_K38, m80_quirref_PactStep_K37, m80_quirref_PactStep_K41, m80_quirref_PactStep_K40, m80_quirref_PactStep_K39, m80_quirref_PactStep_K36, m80_quirref_PactStep_K35, m80_quirref_PactStep_K42, m80_quirref_PactStep_K34, m80_quirref_PactStep_K33, m80_quirref_PactStep_K43, m80_quirref_PactStep_K21, m80_quirref_PactStep_K20, m80_quirref_PactStep_K19, m80_quirref_PactStep_K18, m80_quirref_PactStep_K2, e1, e3, u1, u2, hld, hn8, hv8]
  · obtain ⟨k, m1, m2, m3⟩ := min_eq P.Votes (by omega) (by have := hV.n1; omega)
    have hmin : (2 : Int) ∉ P.Votes → (k = 1 ↔ (0 : Int) ∉ P.Votes) := fun h2 => by
      obtain ⟨z, hz1, hz2⟩ := List.getElem_of_mem m3
      have hok := hV.ok z _ _ (List.getElem?_eq_getElem (show z < P.Parts.length by omega)) (List.getElem?_eq_getElem hz1)
      rw [hz2] at hok
      have hk2 : k ≠ 2 := fun e => h2 (e ▸ m3)
      constructor
      · intro h1 h0
        have := m2 0 h0
        omega
      · intro h0
        have hk0 : k ≠ 0 := fun e => h0 (e ▸ m3)
        omega
    by_cases h2 : (2 : Int) ∈ P.Votes
    · rcases hpp with rfl | rfl | rfl | rfl <;> rcases hld with hld | hld | hld <;> simp [m74_pact_Step_K5, m74_pact_Step_K9, m74_pact_Step_K12, m74_pact_Step_K11, m74_pact_Step_K10, m74_pact_Step_K13, m74_pact_Step_K14, m74_pact_Step_K15, m74_pact_Step_K8, m74_pact_Step_K16, m74_pact_Step_K7, m74_pact_Step_K17, m74_pact_Step_K18, m74_pact_Step_K6, m74_pact_Step_K19, m74_pact_Step_K23, m74_pact_Step_K26, m74_pact_Step_K25, m74_pact_Step_K24, m74_pact_Step_K27, m74_pact_Step_K28, m74_pact_Step_K29, m74_pact_Step_K22, m74_pact_Step_K30, m74_pact_Step_K21, m74_pact_Step_K31, m74_pact_Step_K32, m74_pact_Step_K20, m74_pact_Step_K4, m74_pact_Step_K3, m80_quirref_PactStep_K3, m80_quirref_PactStep_K13, m80_quirref_PactStep_K12, m80_quirref_PactStep_K16, m80_quirref_PactStep_K15, m80_quirref_PactStep_K14, m80_quirref_PactStep_K11, m80_quirref_PactStep_K10, m80_quirref_PactStep_K9, m80_quirref_PactStep_K8, m80_quirref_PactStep_K7, m80_quirref_PactStep_K6, m80_quirref_PactStep_K5, m80_quirref_PactStep_K4, m80_quirref_PactStep_K17, m80_quirref_PactStep_K27, m80_quirref_PactStep_K26, m80_quirref_PactStep_K30, m80_quirref_PactStep_K29, m80_quirref_PactStep_K28, m80_quirref_PactStep_K25, m80_quirref_PactStep_K24, m80_quirref_PactStep_K31, m80_quirref_PactStep_K23, m80_quirref_PactStep_K22, m80_quirref_PactStep_K32, m80_quirref_PactStep_K38, m80_quirref_PactStep_K37, m80_quirref_PactStep_K41, m80_quirref_PactStep_K40, m80_quirref_PactStep_K39, m80_quirref_PactStep_K36, m80_quirref_PactStep_K35, m80_quirref_PactStep_K42, m80_quirref_PactStep_K34, m80_quirref_PactStep_K33, m80_quirref_PactStep_K43, m80_quirref_PactStep_K21, m80_quirref_PactStep_K20, m80_quirref_PactStep_K19, m80_quirref_PactStep_K18, m80_quirref_PactStep_K2, q2, q0, m1, h2, e1, hld, hn8, hv8]
    · have hm := hmin h2
      by_cases h0 : (0 : Int) ∈ P.Votes
      · have hk1 : k ≠ 1 := fun e => (hm.1 e) h0
        rcases hpp with rfl | rfl | rfl | rfl <;> rcases hld with hld | hld | hld <;> simp [m74_pact_Step_K5, m74_pact_Step_K9, m74_pact_Step_K12, m74_pact_Step_K11, m74_pact_Step_K10, m74_pact_Step_K13, m74_pact_Step_K14, m74_pact_Step_K15, m74_pact_Step_K8, m74_pact_Step_K16, m74_pact_Step_K7, m74_pact_Step_K17, m74_pact_Step_K18, m74_pact_Step_K6, m74_pact_Step_K19, m74_pact_Step_K23, m74_pact_Step_K26, m74_pact_Step_K25, m74_pact_Step_K24, m74_pact_Step_K27, m74_pact_Step_K28, m74_pact_Step_K29, m74_pact_Step_K22, m74_pact_Step_K30, m74_pact_Step_K21, m74_pact_Step_K31, m74_pact_Step_K32, m74_pact_Step_K20, m74_pact_Step_K4, m74_pact_Step_K3, m80_quirref_PactStep_K3, m80_quirref_PactStep_K13, m80_quirref_PactStep_K12, m80_quirref_PactStep_K16, m80_quirref_PactStep_K15, m80_quirref_PactStep_K14, m80_quirref_PactStep_K11, m80_quirref_PactStep_K10, m80_quirref_PactStep_K9, m80_quirref_PactStep_K8, m80_quirref_PactStep_K7, m80_quirref_PactStep_K6, m80_quirref_PactStep_K5, m80_quirref_PactStep_K4, m80_quirref_PactStep_K17, m80_quirref_PactStep_K27, m80_quirref_PactStep_K26, m80_quirref_PactStep_K30, m80_quirref_PactStep_K29, m80_quirref_PactStep_K28, m80_quirref_PactStep_K25, m80_quirref_PactStep_K24, m80_quirref_PactStep_K31, m80_quirref_PactStep_K23, m80_quirref_PactStep_K22, m80_quirref_PactStep_K32, m80_quirref_PactStep_K38, m80_quirref_PactStep_K37, m80_quirref_PactStep_K41, m80_quirref_PactStep_K40, m80_quirref_PactStep_K39, m80_quirref_PactStep_K36, m80_quirref_PactStep_K35, m80_quirref_PactStep_K42, m80_quirref_PactStep_K34, m80_quirref_PactStep_K33, m80_quirref_PactStep_K43, m80_quirref_PactStep_K21, m80_quirref_PactStep_K20, m80_quirref_PactStep_K19, m80_quirref_PactStep_K18, m80_quirref_PactStep_K2, q2, q0, m1, h2, h0, hk1, e1, hld, hn8, hv8]
      · have hk1 : k = 1 := hm.2 h0
        rcases hpp with rfl | rfl | rfl | rfl <;> rcases hld with hld | hld | hld <;> simp [m74_pact_Step_K5, m74_pact_Step_K9, m74_pact_Step_K12, m74_pact_Step_K11, m74_pact_Step_K10, m74_pact_Step_K13, m74_pact_Step_K14, m74_pact_Step_K15, m74_pact_Step_K8, m74_pact_Step_K16, m74_pact_Step_K7, m74_pact_Step_K17, m74_pact_Step_K18, m74_pact_Step_K6, m74_pact_Step_K19, m74_pact_Step_K23, m74_pact_Step_K26, m74_pact_Step_K25, m74_pact_Step_K24, m74_pact_Step_K27, m74_pact_Step_K28, m74_pact_Step_K29, m74_pact_Step_K22, m74_pact_Step_K30, m74_pact_Step_K21, m74_pact_Step_K31, m74_pact_Step_K32, m74_pact_Step_K20, m74_pact_Step_K4, m74_pact_Step_K3, m80_quirref_PactStep_K3, m80_quirref_PactStep_K13, m80_quirref_PactStep_K12, m80_quirref_PactStep_K16, m80_quirref_PactStep_K15, m80_quirref_PactStep_K14, m80_quirref_PactStep_K11, m80_quirref_PactStep_K10, m80_quirref_PactStep_K9, m80_quirref_PactStep_K8, m80_quirref_PactStep_K7, m80_quirref_PactStep_K6, m80_quirref_PactStep_K5, m80_quirref_PactStep_K4, m80_quirref_PactStep_K17, m80_quirref_PactStep_K27, m80_quirref_PactStep_K26, m80_quirref_PactStep_K30, m80_quirref_PactStep_K29, m80_quirref_PactStep_K28, m80_quirref_PactStep_K25, m80_quirref_PactStep_K24, m80_quirref_PactStep_K31, m80_quirref_PactStep_K23, m80_quirref_PactStep_K22, m80_quirref_PactStep_K32, m80_quirref_PactStep_K38, m80_quirref_PactStep_K37, m80_quirref_PactStep_K41, m80_quirref_PactStep_K40, m80_quirref_PactStep_K39, m80_quirref_PactStep_K36, m80_quirref_PactStep_K35, m80_quirref_PactStep_K42, m80_quirref_PactStep_K34, m80_quirref_PactStep_K33, m80_quirref_PactStep_K43, m80_quirref_PactStep_K21, m80_quirref_PactStep_K20, m80_quirref_PactStep_K19, m80_quirref_PactStep_K18, m80_quirref_PactStep_K2, q2, q0, m1, h2, h0, hk1, e1, hld, hn8, hv8]
  · rcases hpp with rfl | rfl | rfl | rfl <;> rcases hld with hld | hld | hld <;> simp [m74_pact_Step_K5, m74_pact_Step_K9, m74_pact_Step_K12, m74_pact_Step_K11, m74_pact_Step_K10, m74_pact_Step_K13, m74_pact_Step_K14, m74_pact_Step_K15, m74_pact_Step_K8, m74_pact_Step_K16, m74_pact_Step_K7, m74_pact_Step_K17, m74_pact_Step_K18, m74_pact_Step_K6, m74_pact_Step_K19, m74_pact_Step_K23, m74_pact_Step_K26, m74_pact_Step_K25, m74_pact_Step_K24, m74_pact_Step_K27, m74_pact_Step_K28, m74_pact_Step_K29, m74_pact_Step_K22, m74_pact_Step_K30, m74_pact_Step_K21, m74_pact_Step_K31, m74_pact_Step_K32, m74_pact_Step_K20, m74_pact_Step_K4, m74_pact_Step_K3, m80_quirref_PactStep_K3, m80_quirref_PactStep_K13, m80_quirref_PactStep_K12, m80_quirref_PactStep_K16, m80_quirref_PactStep_K15, m80_quirref_PactStep_K14, m80_quirref_PactStep_K11, m80_quirref_PactStep_K10, m80_quirref_PactStep_K9, m80_quirref_PactStep_K8, m80_quirref_PactStep_K7, m80_quirref_PactStep_K6, m80_quirref_PactStep_K5, m80_quirref_PactStep_K4, m80_quirref_PactStep_K17, m80_quirref_PactStep_K27, m80_quirref_PactStep_K26, m80_quirref_PactStep_K30, m80_quirref_PactStep_K29, m80_quirref_PactStep_K28, m80_quirref_PactStep_K25, m80_quirref_PactStep_K24, m80_quirref_PactStep_K31, m80_quirref_PactStep_K23, m80_quirref_PactStep_K22, m80_quirref_PactStep_K32, m80_quirref_PactStep_K38, m80_quirref_PactStep_K37, m80_quirref_PactStep_K41, m80_quirref_PactStep_K40, m80_quirref_PactStep_K39, m80_quirref_PactStep_K36, m80_quirref_PactStep_K35, m80_quirref_PactStep_K42, m80_quirref_PactStep_K34, m80_quirref_PactStep_K33, m80_quirref_PactStep_K43, m80_quirref_PactStep_K21, m80_quirref_PactStep_K20, m80_quirref_PactStep_K19, m80_quirref_PactStep_K18, m80_quirref_PactStep_K2, e1, hld, hn8, hv8]
  · rcases hpp with rfl | rfl | rfl | rfl <;> rcases hld with hld | hld | hld <;> simp [m74_pact_Step_K5, m74_pact_Step_K9, m74_pact_Step_K12, m74_pact_Step_K11, m74_pact_Step_K10, m74_pact_Step_K13, m74_pact_Step_K14, m74_pact_Step_K15, m74_pact_Step_K8, m74_pact_Step_K16, m74_pact_Step_K7, m74_pact_Step_K17, m74_pact_Step_K18, m74_pact_Step_K6, m74_pact_Step_K19, m74_pact_Step_K23, m74_pact_Step_K26, m74_pact_Step_K25, m74_pact_Step_K24, m74_pact_Step_K27, m74_pact_Step_K28, m74_pact_Step_K29, m74_pact_Step_K22, m74_pact_Step_K30, m74_pact_Step_K21, m74_pact_Step_K31, m74_pact_Step_K32, m74_pact_Step_K20, m74_pact_Step_K4, m74_pact_Step_K3, m80_quirref_PactStep_K3, m80_quirref_PactStep_K13, m80_quirref_PactStep_K12, m80_quirref_PactStep_K16, m80_quirref_PactStep_K15, m80_quirref_PactStep_K14, m80_quirref_PactStep_K11, m80_quirref_PactStep_K10, m80_quirref_PactStep_K9, m80_quirref_PactStep_K8, m80_quirref_PactStep_K7, m80_quirref_PactStep_K6, m80_quirref_PactStep_K5, m80_quirref_PactStep_K4, m80_quirref_PactStep_K17, m80_quirref_PactStep_K27, m80_quirref_PactStep_K26, m80_quirref_PactStep_K30, m80_quirref_PactStep_K29, m80_quirref_PactStep_K28, m80_quirref_PactStep_K25, m80_quirref_PactStep_K24, m80_quirref_PactStep_K31, m80_quirref_PactStep_K23, m80_quirref_PactStep_K22, m80_quirref_PactStep_K32, m80_quirref_PactStep_K38, m80_quirref_PactStep_K37, m80_quirref_PactStep_K41, m80_quirref_PactStep_K40, m80_quirref_PactStep_K39, m80_quirref_PactStep_K36, m80_quirref_PactStep_K35, m80_quirref_PactStep_K42, m80_quirref_PactStep_K34, m80_quirref_PactStep_K33, m80_quirref_PactStep_K43, m80_quirref_PactStep_K21, m80_quirref_PactStep_K20, m80_quirref_PactStep_K19, m80_quirref_PactStep_K18, m80_quirref_PactStep_K2, e1, u1, hld, hn8, hv8, i64a, i64b]
  · by_cases hne : i = j
    · subst hne
      have hpq : p = q := hp.symm.trans hq
      subst hpq
      rcases hpp with rfl | rfl | rfl | rfl <;> rcases hld with hld | hld | hld <;> simp [m74_pact_Step_K5, m74_pact_Step_K9, m74_pact_Step_K12, m74_pact_Step_K11, m74_pact_Step_K10, m74_pact_Step_K13, m74_pact_Step_K14, m74_pact_Step_K15, m74_pact_Step_K8, m74_pact_Step_K16, m74_pact_Step_K7, m74_pact_Step_K17, m74_pact_Step_K18, m74_pact_Step_K6, m74_pact_Step_K19, m74_pact_Step_K23, m74_pact_Step_K26, m74_pact_Step_K25, m74_pact_Step_K24, m74_pact_Step_K27, m74_pact_Step_K28, m74_pact_Step_K29, m74_pact_Step_K22, m74_pact_Step_K30, m74_pact_Step_K21, m74_pact_Step_K31, m74_pact_Step_K32, m74_pact_Step_K20, m74_pact_Step_K4, m74_pact_Step_K3, m80_quirref_PactStep_K3, m80_quirref_PactStep_K13, m80_quirref_PactStep_K12, m80_quirref_PactStep_K16, m80_quirref_PactStep_K15, m80_quirref_PactStep_K14, m80_quirref_PactStep_K11, m80_quirref_PactStep_K10, m80_quirref_PactStep_K9, m80_quirref_PactStep_K8, m80_quirref_PactStep_K7, m80_quirref_PactStep_K6, m80_quirref_PactStep_K5, m80_quirref_PactStep_K4, m80_quirref_PactStep_K17, m80_quirref_PactStep_K27, m80_quirref_PactStep_K26, m80_quirref_PactStep_K30, m80_quirref_PactStep_K29, m80_quirref_PactStep_K28, m80_quirref_PactStep_K25, m80_quirref_PactStep_K24, m80_quirref_PactStep_K31, m80_quirref_PactStep_K23, m80_quirref_PactStep_K22, m80_quirref_PactStep_K32, m80_quirref_PactStep_K38, m80_quirref_PactStep_K37, m80_quirref_PactStep_K41, m80_quirref_PactStep_K40, m80_quirref_PactStep_K39, m80_quirref_PactStep_K36, m80_quirref_PactStep_K35, m80_quirref_PactStep_K42, m80_quirref_PactStep_K34, m80_quirref_PactStep_K33, m80_quirref_PactStep_K43, m80_quirref_PactStep_K21, m80_quirref_PactStep_K20, m80_quirref_PactStep_K19, m80_quirref_PactStep_K18, m80_quirref_PactStep_K2, e1, u1, hld, hn8, hv8]
    · have y1' := x1 hne
      have y2' := x2 hne
      have y5' := x5 hne
      have hne' : ¬ ((i : Int) = (j : Int)) := by omega
      rcases hpp with rfl | rfl | rfl | rfl <;> rcases hqq with rfl | rfl | rfl | rfl <;> rcases hld with hld | hld | hld <;> simp [m74_pact_Step_K5, m74_pact_Step_K9, m74_pact_Step_K12, m74_pact_Step_K11, m74_pact_Step_K10, m74_pact_Step_K13, m74_pact_Step_K14, m74_pact_Step_K15, m74_pact_Step_K8, m74_pact_Step_K16, m74_pact_Step_K7, m74_pact_Step_K17, m74_pact_Step_K18, m74_pact_Step_K6, m74_pact_Step_K19, m74_pact_Step_K23, m74_pact_Step_K26, m74_pact_Step_K25, m74_pact_Step_K24, m74_pact_Step_K27, m74_pact_Step_K28, m74_pact_Step_K29, m74_pact_Step_K22, m74_pact_Step_K30, m74_pact_Step_K21, m74_pact_Step_K31, m74_pact_Step_K32, m74_pact_Step_K20, m74_pact_Step_K4, m74_pact_Step_K3, m80_quirref_PactStep_K3, m80_quirref_PactStep_K13, m80_quirref_PactStep_K12, m80_quirref_PactStep_K16, m80_quirref_PactStep_K15, m80_quirref_PactStep_K14, m80_quirref_PactStep_K11, m80_quirref_PactStep_K10, m80_quirref_PactStep_K9, m80_quirref_PactStep_K8, m80_quirref_PactStep_K7, m80_quirref_PactStep_K6, m80_quirref_PactStep_K5, m80_quirref_PactStep_K4, m80_quirref_PactStep_K17, m80_quirref_PactStep_K27, m80_quirref_PactStep_K26, m80_quirref_PactStep_K30, m80_quirref_PactStep_K29, m80_quirref_PactStep_K28, m80_quirref_PactStep_K25, m80_quirref_PactStep_K24, m80_quirref_PactStep_K31, m80_quirref_PactStep_K23, m80_quirref_PactStep_K22, m80_quirref_PactStep_K32, m80_quirref_PactStep_K38, m80_quirref_PactStep_K37, m80_quirref_PactStep_K41, m80_quirref_PactStep_K40, m80_quirref_PactStep_K39, m80_quirref_PactStep_K36, m80_quirref_PactStep_K35, m80_quirref_PactStep_K42, m80_quirref_PactStep_K34, m80_quirref_PactStep_K33, m80_quirref_PactStep_K43, m80_quirref_PactStep_K21, m80_quirref_PactStep_K20, m80_quirref_PactStep_K19, m80_quirref_PactStep_K18, m80_quirref_PactStep_K2, e1, e2, u1, u3, x3, x4, y1', y2', y5', hne, hne', hld, hn8, hv8]

/-! ### The law -/
def rng (n : Nat) : List Int := (List.range n).map fun (k : Nat) => (k : Int)
theorem rng_len (n : Nat) : (rng n).length = n := by simp [rng]
theorem rng_succ (n : Nat) : rng (n + 1) = rng n ++ [(n : Int)] := by simp [rng, List.range_succ]
theorem stuckLoop (P : TPact) (hn : P.Parts.length ≤ 8) : ∀ (r i : Nat), i + r = P.Parts.length → ∀ n, r < n →
    m75_pact_Stuck_L1 P n (rng i) (i : Int) = some (if (P.Parts.drop i).all (fun p => decide (p = 1)) = true then rng P.Parts.length else [], 0) := by
  intro r
  induction r with
  | zero =>
    intro i hi n hn
    obtain ⟨n, rfl⟩ := dec n hn
    rw [m75_pact_Stuck_L1, m75_pact_Stuck_L1B, if_neg (by omega), m75_pact_Stuck_K2, List.drop_eq_nil_of_le (by omega), show i = P.Parts.length by omega]
    rfl
  | succ r ih =>
    intro i hi n hn
    obtain ⟨n, rfl⟩ := dec n (by omega)
    have h1 : i < P.Parts.length := by omega
    rw [m75_pact_Stuck_L1, m75_pact_Stuck_L1B, if_pos (by omega), idx_at h1, bind1_some, List.drop_eq_getElem_cons h1, List.all_cons]
    by_cases h : P.Parts[i] = 1
    · rw [if_neg (by simpa using h), app_ok (by rw [rng_len]; simp; omega), bind1_some, i64_ok (by omega) (by omega), bind1_some, show ((i : Int) + 1) = ((i + 1 : Nat) : Int) by omega, ← rng_succ, ih (i + 1) (by omega) n (by omega)]
      simp only [h, decide_true, Bool.true_and]
    · rw [if_pos h]
      simp only [h, decide_false, Bool.false_and, Bool.false_eq_true, if_false]
theorem k6_loop1 (l : List Int) (b : TBeat) (x : TPact) (e : Int) (P : TPact) : l = [] → m12_quirlaw_PactSays_K5 l b x e P = m12_quirlaw_PactSays_K6 b x e P := by
  rintro rfl
  rw [m12_quirlaw_PactSays_K5, big_succ, m12_quirlaw_PactSays_L1, m12_quirlaw_PactSays_L1B]
  simp
theorem rng_get (n i : Nat) (h : i < (rng n).length) : (rng n)[i] = (i : Int) := by simp [rng]
theorem loop2 (m : Nat) (hm : m ≤ 8) (b : TBeat) (x : TPact) (e : Int) (P : TPact) : ∀ (r i : Nat), i + r = m → ∀ n, r < n → m12_quirlaw_PactSays_L2 (rng m) b x e P n (i : Int) = m12_quirlaw_PactSays_K12 b x e P := by
  intro r
  induction r with
  | zero =>
    intro i hi n hn
    obtain ⟨n, rfl⟩ := dec n hn
    rw [m12_quirlaw_PactSays_L2, m12_quirlaw_PactSays_L2B, if_neg (by rw [rng_len]; omega)]
  | succ r ih =>
    intro i hi n hn
    obtain ⟨n, rfl⟩ := dec n (by omega)
    have h1 : i < (rng m).length := by rw [rng_len]; omega
    rw [m12_quirlaw_PactSays_L2, m12_quirlaw_PactSays_L2B, if_pos (by omega), idx_at h1, bind1_some, rng_get, if_neg (by simp), i64_ok (by omega) (by omega), bind1_some, show ((i : Int) + 1) = ((i + 1 : Nat) : Int) by omega, ih (i + 1) (by omega) n (by omega)]
theorem loop3 (P : TPact) (hn : P.Parts.length ≤ 8) (x19 : Int) (l : List Int) (b : TBeat) (x : TPact) (e : Int) : ∀ (r i : Nat), i + r = P.Parts.length → ∀ n, r < n →
    m12_quirlaw_PactSays_L3 P x19 l b x e n (i : Int) = m12_quirlaw_PactSays_K17 x19 l P b x e (!((P.Parts.drop i).all fun p => decide (p = 1))) := by
  intro r
  induction r with
  | zero =>
    intro i hi n hn
    obtain ⟨n, rfl⟩ := dec n hn
    rw [m12_quirlaw_PactSays_L3, m12_quirlaw_PactSays_L3B, if_neg (by omega), m12_quirlaw_PactSays_K19, m12_quirlaw_PactSays_K18, List.drop_eq_nil_of_le (by omega)]
    rfl
  | succ r ih =>
    intro i hi n hn
    obtain ⟨n, rfl⟩ := dec n (by omega)
    have h1 : i < P.Parts.length := by omega
    rw [m12_quirlaw_PactSays_L3, m12_quirlaw_PactSays_L3B, if_pos (by omega), idx_at h1, bind1_some, m12_quirlaw_PactSays_K20, List.drop_eq_getElem_cons h1, List.all_cons]
    by_cases h : P.Parts[i] = 1
    · rw [if_neg (by simpa using h), i64_ok (by omega) (by omega), bind1_some, show ((i : Int) + 1) = ((i + 1 : Nat) : Int) by omega, ih (i + 1) (by omega) n (by omega)]
      simp only [h, decide_true, Bool.true_and]
    · rw [if_pos (by simpa using h), m12_quirlaw_PactSays_K18, decide_eq_true (by omega)]
      simp only [h, decide_false, Bool.false_and, Bool.not_false]

theorem none_small : (⟨0, [], []⟩ : TPact).Votes.length ≤ 1099511627776 ∧ (⟨0, [], []⟩ : TPact).Parts.length ≤ 1099511627776 := ⟨by simp, by simp⟩
theorem beat_true (P : TPact) (b : TBeat) (hV : Valid P) : ∃ Q e, m74_pact_Step_K1 b P = some (Q, e) ∧ m12_quirlaw_PactSays_K6 b Q e P = some true ∧ m12_quirlaw_PactSays_K12 b Q e P = some true := by
  have hs : m76_quirref_SamePact ⟨0, [], []⟩ ⟨0, [], []⟩ = some true := by rw [same_eq _ _ none_small.1 none_small.2]; simp
  simp only [m74_pact_Step_K1, m74_pact_Step_K33, m74_pact_Step_K34, m12_quirlaw_PactSays_K6, m12_quirlaw_PactSays_K12, m12_quirlaw_PactSays_K9, m12_quirlaw_PactSays_K15, m12_quirlaw_PactSays_K8, m12_quirlaw_PactSays_K14, hs]
  by_cases h : 0 ≤ b.Who ∧ b.Who < P.Parts.length ∧ 0 ≤ b.By ∧ b.By < P.Parts.length ∧ 1 ≤ b.Kind ∧ b.Kind ≤ 7
  · obtain ⟨w0, w1, y0, y1, k0, k1⟩ := h
    obtain ⟨Q, g1, g2, g3, g4⟩ := step_eq P b hV w0 w1 y0 y1 k0 k1
    have hq : m76_quirref_SamePact Q Q = some true := by rw [same_eq _ _ (by omega) (by omega)]; simp
    have a1 : ¬ b.Who < 0 := by omega
    have a2 : ¬ (P.Parts.length : Int) ≤ b.Who := by omega
    have a3 : ¬ b.By < 0 := by omega
    have a4 : ¬ (P.Parts.length : Int) ≤ b.By := by omega
    have a5 : ¬ b.Kind < 1 := by omega
    have a6 : ¬ 7 < b.Kind := by omega
    have a7 : ¬ min b.Who b.By < 0 := by omega
    have a8 : ¬ (P.Parts.length : Int) ≤ max b.Who b.By := by omega
    refine ⟨Q, 0, ?_, ?_, ?_⟩
    · simp [a1, a2, a3, a4, a5, a6, g1]
    · simp [a5, a6, a7, a8, m12_quirlaw_PactSays_K7, g2, hq]
    · simp [a5, a6, a7, a8, m12_quirlaw_PactSays_K13, g2, hq]
  · refine ⟨⟨0, [], []⟩, 1, ?_, ?_, ?_⟩
    · by_cases a1 : b.Who < 0
      · simp [a1]
      by_cases a2 : (P.Parts.length : Int) ≤ b.Who
      · simp [a1, a2]
      by_cases a3 : b.By < 0
      · simp [a1, a2, a3]
      by_cases a4 : (P.Parts.length : Int) ≤ b.By
      · simp [a1, a2, a3, a4]
      by_cases a5 : b.Kind < 1
      · simp [a1, a2, a3, a4, a5]
      by_cases a6 : 7 < b.Kind
      · simp [a1, a2, a3, a4, a5, a6]
      omega
    all_goals
      by_cases a7 : min b.Who b.By < 0
      · simp [a7, hs]
      by_cases a8 : (P.Parts.length : Int) ≤ max b.Who b.By
      · simp [a7, a8, hs]
      by_cases a5 : b.Kind < 1
      · simp [a7, a8, a5, hs]
      by_cases a6 : 7 < b.Kind
      · simp [a7, a8, a5, a6, hs]
      omega

theorem pact_true (n : Int) (P : TPact) (b : TBeat) : m12_quirlaw_PactSays n P b = some true := by
  have hs : m76_quirref_SamePact ⟨0, [], []⟩ ⟨0, [], []⟩ = some true := by rw [same_eq _ _ none_small.1 none_small.2]; simp
  obtain ⟨e, g1, g2, g3⟩ := check_eq P
  -- what New answers
  have main : ∀ Q f l g, m74_pact_Step P b = some (Q, f) → m75_pact_Stuck P = some (l, g) → m12_quirlaw_PactSays_K1 P e Q f l g b = some true := by
    intro Q f l g hq hl
    simp only [m12_quirlaw_PactSays_K1, g1, bind1_some, ne_eq, not_true, if_false, m12_quirlaw_PactSays_K2]
    by_cases he : e = 0
    · subst he
      have hV := g3 rfl
      have hn8 := hV.n8
      obtain ⟨Q', f', b1, b2, b3⟩ := beat_true P b hV
      simp only [m74_pact_Step, g1, bind1_some, ne_eq, not_true, if_false, b1, Option.some.injEq, Prod.mk.injEq] at hq
      obtain ⟨rfl, rfl⟩ := hq
      have hst := stuckLoop P hV.n8 P.Parts.length 0 (by omega) big (by rw [big_eq]; omega)
      simp only [m75_pact_Stuck, g1, bind1_some, ne_eq, not_true, if_false, m75_pact_Stuck_K1] at hl
      rw [show rng 0 = [] by rfl, show ((0 : Nat) : Int) = 0 by rfl, hl, List.drop_zero] at hst
      simp only [Option.some.injEq, Prod.mk.injEq] at hst
      obtain ⟨hl1, rfl⟩ := hst
      have h3 := loop3 P hV.n8 0 l b Q' f' P.Parts.length 0 (by omega) big (by rw [big_eq]; omega)
      rw [show ((0 : Nat) : Int) = 0 by rfl, List.drop_zero] at h3
      simp only [not_true, if_false, m12_quirlaw_PactSays_K3, h3, m12_quirlaw_PactSays_K17]
      have hn1 := hV.n1
      cases hall : P.Parts.all fun p => decide (p = 1) with
      | true =>
        rw [hall, if_pos rfl] at hl1
        subst hl1
        have hlen : 0 < ((rng P.Parts.length).length : Int) := by rw [rng_len]; omega
        have h2 := loop2 P.Parts.length hV.n8 b Q' f' P P.Parts.length 0 (by omega) big (by rw [big_eq]; omega)
        rw [show ((0 : Nat) : Int) = 0 by rfl] at h2
        simp only [Bool.not_true, Bool.false_eq_true, if_false, m12_quirlaw_PactSays_K4, if_true, ne_eq, not_true, decide_eq_true hlen, m12_quirlaw_PactSays_K16, rng_len, m12_quirlaw_PactSays_K11, h2, b3]
        have hne : P.Parts ≠ [] := fun h => by rw [h] at hn1; simp at hn1
        simp [hne]
      | false =>
        rw [hall, if_neg (by simp)] at hl1
        subst hl1
        simp only [Bool.not_false, if_true, m12_quirlaw_PactSays_K4, Bool.false_eq_true, if_false, ne_eq, not_true, m12_quirlaw_PactSays_K10, k6_loop1 [] b Q' f' P rfl, b2]
        simp
    · simp only [m74_pact_Step, g1, bind1_some, ne_eq, he, not_false_eq_true, if_true, Option.some.injEq, Prod.mk.injEq] at hq
      obtain ⟨rfl, rfl⟩ := hq
      simp only [m75_pact_Stuck, g1, bind1_some, ne_eq, he, not_false_eq_true, if_true, Option.some.injEq, Prod.mk.injEq] at hl
      obtain ⟨rfl, rfl⟩ := hl
      simp [he, hs, m12_quirlaw_PactSays_K21]
  have hstep : ∃ Q f, m74_pact_Step P b = some (Q, f) := by
    by_cases he : e = 0
    · subst he
      obtain ⟨Q', f', b1, _⟩ := beat_true P b (g3 rfl)
      exact ⟨Q', f', by simp [m74_pact_Step, g1, b1]⟩
    · exact ⟨⟨0, [], []⟩, e, by simp [m74_pact_Step, g1, he]⟩
  have hstuck : ∃ l g, m75_pact_Stuck P = some (l, g) := by
    by_cases he : e = 0
    · subst he
      have hn8 := (g3 rfl).n8
      have hst := stuckLoop P hn8 P.Parts.length 0 (by omega) big (by rw [big_eq]; omega)
      exact ⟨_, _, by simp only [m75_pact_Stuck, g1, bind1_some, ne_eq, not_true, if_false, m75_pact_Stuck_K1]; exact hst⟩
    · exact ⟨[], e, by simp [m75_pact_Stuck, g1, he]⟩
  obtain ⟨Q, f, hq⟩ := hstep
  obtain ⟨l, g, hl⟩ := hstuck
  have hmain := main Q f l g hq hl
  simp only [m12_quirlaw_PactSays, m72_pact_New, g2, hq, hl, bind1_some, bind2_some]
  by_cases h1 : n < 1
  · simp [h1, m12_quirlaw_PactSays_K22, hs, hmain]
  by_cases h2 : 8 < n
  · simp [h1, h2, m12_quirlaw_PactSays_K22, hs, hmain]
  have hmk : mk n (0 : Int) = some (List.replicate n.toNat 0) := by unfold mk; rw [if_pos ⟨by omega, by omega⟩]
  have hs2 : m76_quirref_SamePact ⟨0, List.replicate n.toNat 0, List.replicate n.toNat 0⟩ ⟨0, List.replicate n.toNat 0, List.replicate n.toNat 0⟩ = some true := by
    rw [same_eq _ _ (by simp; omega) (by simp; omega)]; simp
  simp [h1, h2, m12_quirlaw_PactSays_K22, m12_quirlaw_PactSays_K23, m72_pact_New_K1, m72_pact_New_K2, hmk, hs2, hmain]
end Go.Proofs.Ytfmgjigdebofaaa
