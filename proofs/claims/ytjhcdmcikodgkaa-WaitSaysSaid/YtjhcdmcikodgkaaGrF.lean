/-
  Graphs: what is wrong is found alike, and the law's model answers true.
  Conditions: none.
-/
import Derived.Test.YtjhcdmcikodgkaaGrE
namespace Go.Proofs.Ytjhcdmcikodgkaa
open Go.S
set_option linter.unusedVariables false
set_option linter.unusedSimpArgs false

/-! ### What is wrong -/
theorem errL (a0 : Int) (es : List TEdge) (hl : es.length ≤ 2000) : ∀ (r i : Nat), i + r = es.length → ∀ m m', r < m → r < m' →
    ∃ c, m9_graph_Check_L1 es a0 m (i : Int) = some c ∧ m5_quirref_GraphErr_L1 es a0 m' (i : Int) = some c ∧ (c = 0 → ∀ e ∈ es.drop i, 0 ≤ e.From ∧ e.From < a0 ∧ 0 ≤ e.To ∧ e.To < a0) := by
  intro r
  induction r with
  | zero =>
    intro i hi m m' hm hm'
    obtain ⟨m, rfl⟩ := dec m hm
    obtain ⟨m', rfl⟩ := dec m' hm'
    refine ⟨0, ?_, ?_, fun _ e he => ?_⟩
    · rw [m9_graph_Check_L1, m9_graph_Check_L1B, if_neg (by omega), m9_graph_Check_K3]
    · rw [m5_quirref_GraphErr_L1, m5_quirref_GraphErr_L1B, if_neg (by omega), m5_quirref_GraphErr_K3]
    · rw [List.drop_eq_nil_of_le (by omega)] at he; cases he
  | succ r ih =>
    intro i hi m m' hm hm'
    obtain ⟨m, rfl⟩ := dec m (by omega)
    obtain ⟨m', rfl⟩ := dec m' (by omega)
    have h1 : i < es.length := by omega
    have e1 : m9_graph_Check_L1 es a0 (m + 1) (i : Int) = (if es[i].From < 0 ∨ a0 ≤ es[i].From ∨ es[i].To < 0 ∨ a0 ≤ es[i].To then some 4 else m9_graph_Check_L1 es a0 m ((i + 1 : Nat) : Int)) := by
      rw [m9_graph_Check_L1, m9_graph_Check_L1B, if_pos (by omega), idx_ok h1, bind1_some]
      by_cases c1 : es[i].From < 0
      · rw [if_pos c1, m9_graph_Check_K4, if_pos rfl, if_pos (.inl c1)]
      · by_cases c2 : a0 ≤ es[i].From
        · rw [if_neg c1, if_pos c2, m9_graph_Check_K4, if_pos rfl, if_pos (.inr (.inl c2))]
        · rw [if_neg c1, if_neg c2, m9_graph_Check_K4, if_neg ff]
          by_cases c3 : es[i].To < 0
          · rw [if_pos c3, if_pos (.inr (.inr (.inl c3)))]
          · by_cases c4 : a0 ≤ es[i].To
            · rw [if_neg c3, if_pos c4, if_pos (.inr (.inr (.inr c4)))]
            · rw [if_neg c3, if_neg c4, if_neg (by omega), isucc i (by omega), bind1_some]
    have e2 : m5_quirref_GraphErr_L1 es a0 (m' + 1) (i : Int) = (if es[i].From < 0 ∨ a0 ≤ es[i].From ∨ es[i].To < 0 ∨ a0 ≤ es[i].To then some 4 else m5_quirref_GraphErr_L1 es a0 m' ((i + 1 : Nat) : Int)) := by
      rw [m5_quirref_GraphErr_L1, m5_quirref_GraphErr_L1B, if_pos (by omega), idx_ok h1, bind1_some]
      by_cases c1 : min es[i].From es[i].To < 0
      · rw [if_pos c1, if_pos (by omega)]
      · by_cases c2 : a0 ≤ max es[i].From es[i].To
        · rw [if_neg c1, if_pos c2, if_pos (by omega)]
        · rw [if_neg c1, if_neg c2, if_neg (by omega), isucc i (by omega), bind1_some]
    rw [e1, e2]
    by_cases c : es[i].From < 0 ∨ a0 ≤ es[i].From ∨ es[i].To < 0 ∨ a0 ≤ es[i].To
    · rw [if_pos c, if_pos c]
      exact ⟨4, rfl, rfl, fun h => by cases h⟩
    · rw [if_neg c, if_neg c]
      obtain ⟨z, g1, g2, g3⟩ := ih (i + 1) (by omega) m m' (by omega) (by omega)
      refine ⟨z, g1, g2, fun hz e he => ?_⟩
      rw [drop_cons h1] at he
      rcases List.mem_cons.1 he with q | q
      · rw [q]; omega
      · exact g3 hz e q
theorem err_eq (a0 : Int) (es : List TEdge) : ∃ c, m9_graph_Check a0 es = some c ∧ m5_quirref_GraphErr a0 es = some c ∧ (c = 0 → ∃ n : Nat, a0 = n ∧ n ≤ 60 ∧ es.length ≤ 2000 ∧ InR n es) := by
  rw [m9_graph_Check, m5_quirref_GraphErr]
  by_cases c1 : a0 < 0
  · rw [if_pos c1, if_pos c1]; exact ⟨1, rfl, rfl, fun h => by cases h⟩
  · rw [if_neg c1, if_neg c1]
    by_cases c2 : 60 < a0
    · rw [if_pos c2, if_pos c2]; exact ⟨1, rfl, rfl, fun h => by cases h⟩
    · rw [if_neg c2, if_neg c2, m9_graph_Check_K1, m5_quirref_GraphErr_K1]
      by_cases c3 : 2000 < (es.length : Int)
      · rw [if_pos c3, if_pos c3]; exact ⟨2, rfl, rfl, fun h => by cases h⟩
      · rw [if_neg c3, if_neg c3, m9_graph_Check_K2, m5_quirref_GraphErr_K2]
        obtain ⟨z, g1, g2, g3⟩ := errL a0 es (by omega) es.length 0 (by omega) big big (lt_big (by omega)) (lt_big (by omega))
        refine ⟨z, g1, g2, fun hz => ⟨a0.toNat, by omega, by omega, by omega, fun e he => ?_⟩⟩
        have := g3 hz e (by rw [List.drop_zero]; exact he)
        omega

/-! ### Alike -/
theorem equalL (l : List Int) (hl : l.length ≤ 1000000) : ∀ (r i : Nat), i + r = l.length → ∀ m, r < m → m11_slices_Equal_int_L1 l l m (i : Int) = some true := by
  intro r
  induction r with
  | zero =>
    intro i hi m hm
    obtain ⟨m, rfl⟩ := dec m hm
    rw [m11_slices_Equal_int_L1, m11_slices_Equal_int_L1B, if_neg (by omega), m11_slices_Equal_int_K2]
  | succ r ih =>
    intro i hi m hm
    obtain ⟨m, rfl⟩ := dec m (by omega)
    have h1 : i < l.length := by omega
    rw [m11_slices_Equal_int_L1, m11_slices_Equal_int_L1B, if_pos (by omega), idx_ok h1, bind1_some, bind1_some, if_neg (by simp), isucc i (by omega), bind1_some, ih (i + 1) (by omega) m (by omega)]
theorem equal_self (l : List Int) (hl : l.length ≤ 1000000) : m11_slices_Equal_int l l = some true := by
  rw [m11_slices_Equal_int, if_neg (by simp), m11_slices_Equal_int_K1]
  exact equalL l hl l.length 0 (by omega) big (lt_big (by omega))

/-! ### The law: behind a right order -/
theorem lawL4 (n : Nat) (hn : n ≤ 60) (B : Int → Bool) (l12 : List Int) (x14 : Int) : ∀ (r i : Nat), i + r = n → ∀ acc : List Int, acc.length ≤ i → ∀ m, r < m →
    m3_quirlaw_GraphSays_L4 (tab n B) l12 x14 m acc (i : Int) = m3_quirlaw_GraphSays_K18 l12 x14 (acc ++ selI B i r) := by
  intro r
  induction r with
  | zero =>
    intro i hi acc ha m hm
    obtain ⟨m, rfl⟩ := dec m hm
    rw [m3_quirlaw_GraphSays_L4, m3_quirlaw_GraphSays_L4B, if_neg (by rw [tab_length]; omega), selI, List.append_nil]
  | succ r ih =>
    intro i hi acc ha m hm
    obtain ⟨m, rfl⟩ := dec m (by omega)
    have i0 : (0 : Int) ≤ (i : Int) := by omega
    have i1 : (i : Int) < (n : Nat) := by omega
    rw [m3_quirlaw_GraphSays_L4, m3_quirlaw_GraphSays_L4B, if_pos (by rw [tab_length]; omega), tab_idx i0 i1, bind1_some, selI]
    by_cases c : B i = true
    · rw [if_pos c, if_pos c, app_ok (by simp only [List.length_cons, List.length_nil]; omega), bind1_some, isucc i (by omega), bind1_some, ih (i + 1) (by omega) _ (by simp only [List.length_append, List.length_cons, List.length_nil]; omega) m (by omega), List.append_assoc, List.singleton_append]
    · rw [if_neg c, if_neg c, isucc i (by omega), bind1_some, ih (i + 1) (by omega) acc (by omega) m (by omega)]
theorem law16 (n : Nat) (hn : n ≤ 60) (es : List TEdge) (C : Int → Int → Bool) (hC : m14_quirref_Closure (n : Int) es = some (tt n C)) (a : Int) (l12 : List Int) (x14 : Int) (h : (if a < 0 ∨ n ≤ a then some (([] : List Int), (1 : Int)) else some (selI (C a) 0 n, 0)) = some (l12, x14)) :
    m3_quirlaw_GraphSays_K16 a l12 x14 (n : Int) es = some true := by
  rw [m3_quirlaw_GraphSays_K16]
  by_cases c : a < 0 ∨ (n : Int) ≤ a
  · rw [if_pos c] at h
    simp only [Option.some.injEq, Prod.mk.injEq] at h
    obtain ⟨rfl, rfl⟩ := h
    have e : m3_quirlaw_GraphSays_K19 [] 1 (n : Int) es a true = some true := by
      rw [m3_quirlaw_GraphSays_K19, if_pos rfl, if_pos (by simp)]; rfl
    by_cases c1 : a < 0
    · rw [if_pos c1, e]
    · rw [if_neg c1, if_pos (c.resolve_left c1), e]
  · rw [if_neg c] at h
    simp only [Option.some.injEq, Prod.mk.injEq] at h
    obtain ⟨rfl, rfl⟩ := h
    rw [not_or] at c
    have e := lawL4 n hn (C a) (selI (C a) 0 n) 0 n 0 (by omega) [] (by simp) big (lt_big (by omega))
    rw [List.nil_append, show ((0 : Nat) : Int) = 0 from rfl] at e
    have hs := selI_len (P := C a) n 0
    rw [if_neg c.1, if_neg c.2, m3_quirlaw_GraphSays_K19, if_neg ff, m3_quirlaw_GraphSays_K17, hC, bind1_some, tt_idx (by omega) (by omega), bind1_some, e, m3_quirlaw_GraphSays_K18, equal_self _ (by omega), bind1_some, if_pos rfl]
    rfl
theorem law21 (P : List (List Int)) (hP : P.length ≤ 1000000) (hp : ∀ p ∈ P, p.length ≤ 1000000) (x10 a : Int) (l12 : List Int) (x14 a0 : Int) (es : List TEdge) : ∀ (r i : Nat), i + r = P.length → ∀ m, r < m →
    m3_quirlaw_GraphSays_L5 P P x10 a l12 x14 a0 es m (i : Int) = m3_quirlaw_GraphSays_K20 x10 a l12 x14 a0 es true := by
  intro r
  induction r with
  | zero =>
    intro i hi m hm
    obtain ⟨m, rfl⟩ := dec m hm
    rw [m3_quirlaw_GraphSays_L5, m3_quirlaw_GraphSays_L5B, if_neg (by omega), m3_quirlaw_GraphSays_K22]
  | succ r ih =>
    intro i hi m hm
    obtain ⟨m, rfl⟩ := dec m (by omega)
    have h1 : i < P.length := by omega
    have hpl := hp P[i] (List.getElem_mem h1)
    have key : ∀ (r' j : Nat), j + r' = P[i].length → ∀ q, r' < q → m3_quirlaw_GraphSays_L6 P[i] P[i] (i : Int) (m3_quirlaw_GraphSays_L5 P P x10 a l12 x14 a0 es m) x10 a l12 x14 a0 es q (j : Int) = m3_quirlaw_GraphSays_K25 (i : Int) (m3_quirlaw_GraphSays_L5 P P x10 a l12 x14 a0 es m) x10 a l12 x14 a0 es := by
      intro r'
      induction r' with
      | zero =>
        intro j hj q hq
        obtain ⟨q, rfl⟩ := dec q hq
        rw [m3_quirlaw_GraphSays_L6, m3_quirlaw_GraphSays_L6B, if_neg (by omega)]
      | succ r' ih' =>
        intro j hj q hq
        obtain ⟨q, rfl⟩ := dec q (by omega)
        have h2 : j < P[i].length := by omega
        rw [m3_quirlaw_GraphSays_L6, m3_quirlaw_GraphSays_L6B, if_pos (by omega), idx_ok h2, bind1_some, bind1_some, if_neg (by simp), isucc j (by omega), bind1_some, ih' (j + 1) (by omega) q (by omega)]
    have e := key P[i].length 0 (by omega) big (lt_big (by omega))
    rw [show ((0 : Nat) : Int) = 0 from rfl] at e
    rw [m3_quirlaw_GraphSays_L5, m3_quirlaw_GraphSays_L5B, if_pos (by omega), idx_ok h1, bind1_some, bind1_some, if_neg (by simp), m3_quirlaw_GraphSays_K24, e, m3_quirlaw_GraphSays_K25, m3_quirlaw_GraphSays_K23, if_pos rfl, isucc i (by omega), bind1_some, ih (i + 1) (by omega) m (by omega)]
theorem law15 (n : Nat) (hn : n ≤ 60) (es : List TEdge) (C : Int → Int → Bool) (hC : m14_quirref_Closure (n : Int) es = some (tt n C)) (a : Int) (l12 : List Int) (x14 : Int) (h : (if a < 0 ∨ n ≤ a then some (([] : List Int), (1 : Int)) else some (selI (C a) 0 n, 0)) = some (l12, x14)) :
    m3_quirlaw_GraphSays_K15 (n : Int) es (refParts n C 0 n) 0 a l12 x14 = some true := by
  have hP := refParts_len (n := n) (C := C) n 0
  have hp : ∀ p ∈ refParts n C 0 n, p.length ≤ 1000000 := fun p hp => by
    obtain ⟨q, _, _, _, e⟩ := (refParts_mem n 0).1 hp
    rw [e]
    have := selI_len (P := fun i => decide (i = q) || C i q && C q i) n 0
    exact Nat.le_trans this (by omega)
  have e := law21 (refParts n C 0 n) (by omega) hp 0 a l12 x14 (n : Int) es (refParts n C 0 n).length 0 (by omega) big (lt_big (by omega))
  rw [show ((0 : Nat) : Int) = 0 from rfl] at e
  rw [m3_quirlaw_GraphSays_K15, rparts_eq hn C hC, bind1_some, if_neg (by simp), m3_quirlaw_GraphSays_K21, e, m3_quirlaw_GraphSays_K20, if_pos rfl, if_neg (by simp), law16 n hn es C hC a l12 x14 h]

/-! ### The law: where no order is -/
theorem lawL1 (n : Nat) (hn : n ≤ 60) (B : Int → Bool) (l12 : List Int) (x14 : Int) : ∀ (r i : Nat), i + r = n → ∀ acc : List Int, acc.length ≤ i → ∀ m, r < m →
    m3_quirlaw_GraphSays_L1 (tab n B) l12 x14 m acc (i : Int) = m3_quirlaw_GraphSays_K7 l12 x14 (acc ++ selI B i r) := by
  intro r
  induction r with
  | zero =>
    intro i hi acc ha m hm
    obtain ⟨m, rfl⟩ := dec m hm
    rw [m3_quirlaw_GraphSays_L1, m3_quirlaw_GraphSays_L1B, if_neg (by rw [tab_length]; omega), selI, List.append_nil]
  | succ r ih =>
    intro i hi acc ha m hm
    obtain ⟨m, rfl⟩ := dec m (by omega)
    have i0 : (0 : Int) ≤ (i : Int) := by omega
    have i1 : (i : Int) < (n : Nat) := by omega
    rw [m3_quirlaw_GraphSays_L1, m3_quirlaw_GraphSays_L1B, if_pos (by rw [tab_length]; omega), tab_idx i0 i1, bind1_some, selI]
    by_cases c : B i = true
    · rw [if_pos c, if_pos c, app_ok (by simp only [List.length_cons, List.length_nil]; omega), bind1_some, isucc i (by omega), bind1_some, ih (i + 1) (by omega) _ (by simp only [List.length_append, List.length_cons, List.length_nil]; omega) m (by omega), List.append_assoc, List.singleton_append]
    · rw [if_neg c, if_neg c, isucc i (by omega), bind1_some, ih (i + 1) (by omega) acc (by omega) m (by omega)]
theorem law5 (n : Nat) (hn : n ≤ 60) (es : List TEdge) (C : Int → Int → Bool) (hC : m14_quirref_Closure (n : Int) es = some (tt n C)) (a : Int) (l12 : List Int) (x14 : Int) (h : (if a < 0 ∨ n ≤ a then some (([] : List Int), (1 : Int)) else some (selI (C a) 0 n, 0)) = some (l12, x14)) :
    m3_quirlaw_GraphSays_K5 a l12 x14 (n : Int) es = some true := by
  rw [m3_quirlaw_GraphSays_K5]
  by_cases c : a < 0 ∨ (n : Int) ≤ a
  · rw [if_pos c] at h
    simp only [Option.some.injEq, Prod.mk.injEq] at h
    obtain ⟨rfl, rfl⟩ := h
    have e : m3_quirlaw_GraphSays_K8 [] 1 (n : Int) es a true = some true := by
      rw [m3_quirlaw_GraphSays_K8, if_pos rfl, if_pos (by simp)]; rfl
    by_cases c1 : a < 0
    · rw [if_pos c1, e]
    · rw [if_neg c1, if_pos (c.resolve_left c1), e]
  · rw [if_neg c] at h
    simp only [Option.some.injEq, Prod.mk.injEq] at h
    obtain ⟨rfl, rfl⟩ := h
    rw [not_or] at c
    have e := lawL1 n hn (C a) (selI (C a) 0 n) 0 n 0 (by omega) [] (by simp) big (lt_big (by omega))
    rw [List.nil_append, show ((0 : Nat) : Int) = 0 from rfl] at e
    have hs := selI_len (P := C a) n 0
    rw [if_neg c.1, if_neg c.2, m3_quirlaw_GraphSays_K8, if_neg ff, m3_quirlaw_GraphSays_K6, hC, bind1_some, tt_idx (by omega) (by omega), bind1_some, e, m3_quirlaw_GraphSays_K7, equal_self _ (by omega), bind1_some, if_pos rfl]
    rfl
theorem law10 (P : List (List Int)) (hP : P.length ≤ 1000000) (hp : ∀ p ∈ P, p.length ≤ 1000000) (x10 a : Int) (l12 : List Int) (x14 a0 : Int) (es : List TEdge) : ∀ (r i : Nat), i + r = P.length → ∀ m, r < m →
    m3_quirlaw_GraphSays_L2 P P x10 a l12 x14 a0 es m (i : Int) = m3_quirlaw_GraphSays_K9 x10 a l12 x14 a0 es true := by
  intro r
  induction r with
  | zero =>
    intro i hi m hm
    obtain ⟨m, rfl⟩ := dec m hm
    rw [m3_quirlaw_GraphSays_L2, m3_quirlaw_GraphSays_L2B, if_neg (by omega), m3_quirlaw_GraphSays_K11]
  | succ r ih =>
    intro i hi m hm
    obtain ⟨m, rfl⟩ := dec m (by omega)
    have h1 : i < P.length := by omega
    have hpl := hp P[i] (List.getElem_mem h1)
    have key : ∀ (r' j : Nat), j + r' = P[i].length → ∀ q, r' < q → m3_quirlaw_GraphSays_L3 P[i] P[i] (i : Int) (m3_quirlaw_GraphSays_L2 P P x10 a l12 x14 a0 es m) x10 a l12 x14 a0 es q (j : Int) = m3_quirlaw_GraphSays_K14 (i : Int) (m3_quirlaw_GraphSays_L2 P P x10 a l12 x14 a0 es m) x10 a l12 x14 a0 es := by
      intro r'
      induction r' with
      | zero =>
        intro j hj q hq
        obtain ⟨q, rfl⟩ := dec q hq
        rw [m3_quirlaw_GraphSays_L3, m3_quirlaw_GraphSays_L3B, if_neg (by omega)]
      | succ r' ih' =>
        intro j hj q hq
        obtain ⟨q, rfl⟩ := dec q (by omega)
        have h2 : j < P[i].length := by omega
        rw [m3_quirlaw_GraphSays_L3, m3_quirlaw_GraphSays_L3B, if_pos (by omega), idx_ok h2, bind1_some, bind1_some, if_neg (by simp), isucc j (by omega), bind1_some, ih' (j + 1) (by omega) q (by omega)]
    have e := key P[i].length 0 (by omega) big (lt_big (by omega))
    rw [show ((0 : Nat) : Int) = 0 from rfl] at e
    rw [m3_quirlaw_GraphSays_L2, m3_quirlaw_GraphSays_L2B, if_pos (by omega), idx_ok h1, bind1_some, bind1_some, if_neg (by simp), m3_quirlaw_GraphSays_K13, e, m3_quirlaw_GraphSays_K14, m3_quirlaw_GraphSays_K12, if_pos rfl, isucc i (by omega), bind1_some, ih (i + 1) (by omega) m (by omega)]
theorem law4 (n : Nat) (hn : n ≤ 60) (es : List TEdge) (C : Int → Int → Bool) (hC : m14_quirref_Closure (n : Int) es = some (tt n C)) (a : Int) (l12 : List Int) (x14 : Int) (h : (if a < 0 ∨ n ≤ a then some (([] : List Int), (1 : Int)) else some (selI (C a) 0 n, 0)) = some (l12, x14)) :
    m3_quirlaw_GraphSays_K4 (n : Int) es (refParts n C 0 n) 0 a l12 x14 = some true := by
  have hP := refParts_len (n := n) (C := C) n 0
  have hp : ∀ p ∈ refParts n C 0 n, p.length ≤ 1000000 := fun p hp => by
    obtain ⟨q, _, _, _, e⟩ := (refParts_mem n 0).1 hp
    rw [e]
    have := selI_len (P := fun i => decide (i = q) || C i q && C q i) n 0
    exact Nat.le_trans this (by omega)
  have e := law10 (refParts n C 0 n) (by omega) hp 0 a l12 x14 (n : Int) es (refParts n C 0 n).length 0 (by omega) big (lt_big (by omega))
  rw [show ((0 : Nat) : Int) = 0 from rfl] at e
  rw [m3_quirlaw_GraphSays_K4, rparts_eq hn C hC, bind1_some, if_neg (by simp), m3_quirlaw_GraphSays_K10, e, m3_quirlaw_GraphSays_K9, if_pos rfl, if_neg (by simp), law5 n hn es C hC a l12 x14 h]

theorem graph_true (a0 : Int) (es : List TEdge) (a : Int) : m3_quirlaw_GraphSays a0 es a = some true := by
  obtain ⟨c, h1, h2, h3⟩ := err_eq a0 es
  rw [m3_quirlaw_GraphSays, h2, bind1_some]
  by_cases hc : c = 0
  · subst hc
    obtain ⟨n, rfl, hn, hl, hR⟩ := h3 rfl
    obtain ⟨C, hC, hCe⟩ := closure_tc n hn es hl hR
    obtain ⟨z, ok, o1, o2, _, o3, o4⟩ := order_eq n hn es hl hR
    have hr := reach_eq hn hl hR C hC a
    have hr' : ∃ l12 x14, (if a < 0 ∨ n ≤ a then some (([] : List Int), (1 : Int)) else some (selI (C a) 0 n, 0)) = some (l12, x14) := by
      split
      · exact ⟨_, _, rfl⟩
      · exact ⟨_, _, rfl⟩
    obtain ⟨l12, x14, hr'⟩ := hr'
    rw [hr'] at hr
    rw [o1, bind2_some, parts_eq hn hl hR C hC, bind2_some, hr, bind2_some, h1, bind1_some, if_neg (by simp), m3_quirlaw_GraphSays_K1, if_neg (by simp), m3_quirlaw_GraphSays_K2, o2, bind2_some]
    cases ok with
    | true => rw [if_pos rfl, m3_quirlaw_GraphSays_K3, if_pos rfl, equal_self z (by omega), bind1_some, if_pos rfl, if_pos rfl, if_neg (by simp), law15 n hn es C hCe a l12 x14 hr']
    | false => rw [if_neg ff, m3_quirlaw_GraphSays_K3, if_neg ff, if_neg ff, o4 rfl, if_neg (by simp), if_neg (by simp), law4 n hn es C hCe a l12 x14 hr']
  · have e1 : m6_graph_Order a0 es = some ([], c) := by rw [m6_graph_Order, h1, bind1_some, if_pos hc]
    have e2 : m7_graph_Parts a0 es = some ([], c) := by rw [m7_graph_Parts, h1, bind1_some, if_pos hc]
    have e3 : m8_graph_Reach a0 es a = some ([], c) := by rw [m8_graph_Reach, h1, bind1_some, if_pos hc]
    rw [e1, bind2_some, e2, bind2_some, e3, bind2_some, h1, bind1_some, if_neg (by simp), m3_quirlaw_GraphSays_K1, if_pos hc, if_pos (by simp), if_pos rfl, m3_quirlaw_GraphSays_K26, if_pos rfl, if_pos (by simp), if_pos rfl, m3_quirlaw_GraphSays_K27, if_pos rfl, if_pos (by simp)]
    simp
end Go.Proofs.Ytjhcdmcikodgkaa
