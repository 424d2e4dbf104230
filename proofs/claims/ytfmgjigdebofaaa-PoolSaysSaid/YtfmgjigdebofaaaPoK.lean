/-
  Package pool: Clock is the document's.
  Conditions: none.
-/
import Derived.Test.YtfmgjigdebofaaaPoT
namespace Go.Proofs.Ytfmgjigdebofaaa
open Go.S
set_option linter.unusedVariables false
set_option linter.unusedSimpArgs false
abbrev FL := List TframeOf
def marks (F : FL) : Nat := (F.filter fun f => f.mark_).length
theorem marks_le (F : FL) : marks F ≤ F.length := List.length_filter_le _ _
theorem marks_set : ∀ (F : FL) (j : Nat) (h : j < F.length) (x : Int), F[j].mark_ = true → marks (F.set j ⟨x, false⟩) + 1 = marks F
  | [], j, h, _, _ => by simp at h
  | f :: F, 0, h, x, hm => by
    have hm' : f.mark_ = true := hm
    simp [marks, hm']
  | f :: F, j + 1, h, x, hm => by
    have := marks_set F j (by simpa using h) x (by simpa using hm)
    unfold marks at this ⊢
    rw [List.set_cons_succ, List.filter_cons, List.filter_cons]
    by_cases hf : f.mark_ = true
    · rw [if_pos hf, if_pos hf, List.length_cons, List.length_cons]; omega
    · rw [if_neg hf, if_neg hf]; exact this
section
variable {refs : List Int} {s : Nat}
theorem page_set (F : FL) (j : Nat) (h : j < F.length) (b : Bool) : (F.set j ⟨F[j].page_, b⟩).map TframeOf.page_ = F.map TframeOf.page_ := by
  rw [List.map_set]
  refine List.ext_getElem (by simp) fun k h1 h2 => ?_
  rw [List.getElem_set]
  split
  · rename_i e; subst e; simp
  · rfl
/-- The hand goes round. -/
theorem hand_eq (hs : 1 ≤ s ∧ s ≤ 50) {x : Int} {gi : Int} {go1 : List Bool → List Int → List Bool → Int → Int → Option (List Bool × List Int × Int)} {go2 : FL → List Bool → Int → Int → Option PR} {h8 : List Bool} : ∀ (m : Nat) (F : FL) (hand : Nat), marks F = m → F.length = s → hand + m ≤ 1000000 → ∀ n n', m < n → m < n' →
    ∃ (F' : FL) (hand' : Nat), F'.length = s ∧ F'.map TframeOf.page_ = F.map TframeOf.page_ ∧ hand' ≤ hand + m ∧
      m68_pool_Clock_L2 s (F.map TframeOf.page_) x gi go1 h8 n (F.map TframeOf.mark_) ((hand % s : Nat) : Int) = m68_pool_Clock_K5 (F'.map TframeOf.page_) x s gi go1 h8 (F'.map TframeOf.mark_) ((hand' % s : Nat) : Int) ∧
      m69_quirref_Clock_L3 s x gi go2 h8 n' F hand = m69_quirref_Clock_K7 s x gi go2 h8 F' hand' := by
  intro m
  induction m with
  | zero =>
    intro F hand hm hF hh n n' hn hn'
    obtain ⟨n, rfl⟩ := dec n hn
    obtain ⟨n', rfl⟩ := dec n' hn'
    have hlt : hand % s < F.length := by rw [hF]; exact Nat.mod_lt _ (by omega)
    have hmk : ¬ F[hand % s].mark_ = true := by
      intro hc
      have := marks_set F _ hlt 0 hc
      omega
    refine ⟨F, hand, hF, rfl, by omega, ?_, ?_⟩
    · rw [m68_pool_Clock_L2, m68_pool_Clock_L2B, idx_ok (by rw [List.length_map]; exact hlt), bind1_some, List.getElem_map, if_neg hmk]
    · rw [m69_quirref_Clock_L3, m69_quirref_Clock_L3B, modW_nat hand s (by omega), bind1_some, idx_ok hlt, bind1_some, if_neg hmk]
  | succ m ih =>
    intro F hand hm hF hh n n' hn hn'
    obtain ⟨n, rfl⟩ := dec n (by omega)
    obtain ⟨n', rfl⟩ := dec n' (by omega)
    have hlt : hand % s < F.length := by rw [hF]; exact Nat.mod_lt _ (by omega)
    have hlt' : hand % s < (F.map TframeOf.mark_).length := by rw [List.length_map]; exact hlt
    by_cases hmk : F[hand % s].mark_ = true
    · have hms := marks_set F _ hlt F[hand % s].page_ hmk
      obtain ⟨F', hand', h1, h2, h3, h4, h5⟩ := ih (F.set (hand % s) ⟨F[hand % s].page_, false⟩) (hand + 1) (by omega) (by rw [List.length_set]; exact hF) (by omega) n n' (by omega) (by omega)
      rw [page_set F _ hlt] at h2 h4
      refine ⟨F', hand', h1, h2, by omega, ?_, ?_⟩
      · rw [m68_pool_Clock_L2, m68_pool_Clock_L2B, idx_ok hlt', bind1_some, List.getElem_map, if_pos hmk, bind1_some, upd_ok _ hlt', bind1_some, isucc _ (by have := Nat.mod_lt hand (show s > 0 by omega); omega), bind1_some, modW_nat _ s (by omega), bind1_some, Nat.mod_add_mod, ← h4, List.map_set]
      · rw [m69_quirref_Clock_L3, m69_quirref_Clock_L3B, modW_nat hand s (by omega), bind1_some, idx_ok hlt, bind1_some, if_pos hmk, bind1_some, idx_ok hlt, bind1_some, upd_ok _ hlt, bind1_some, isucc _ (by omega), bind1_some, h5]
    · refine ⟨F, hand, hF, rfl, by omega, ?_, ?_⟩
      · rw [m68_pool_Clock_L2, m68_pool_Clock_L2B, idx_ok hlt', bind1_some, List.getElem_map, if_neg hmk]
      · rw [m69_quirref_Clock_L3, m69_quirref_Clock_L3B, modW_nat hand s (by omega), bind1_some, idx_ok hlt, bind1_some, if_neg hmk]
/-- The document looks for the page. -/
theorem look_eq (F : FL) (hF : F.length ≤ 1000000) {x : Int} {h8 : List Bool} {gi hand a0 : Int} {go2 : FL → List Bool → Int → Int → Option PR} : ∀ (r i : Nat), i + r = F.length → ∀ n, r < n →
    m69_quirref_Clock_L4 F x h8 gi go2 hand a0 n (i : Int) = m69_quirref_Clock_K4 h8 F gi go2 hand a0 x (if ixN x ((F.map TframeOf.page_).drop i) < ((F.map TframeOf.page_).drop i).length then ((i + ixN x ((F.map TframeOf.page_).drop i) : Nat) : Int) else -1) := by
  intro r
  induction r with
  | zero =>
    intro i hi n hn
    obtain ⟨n, rfl⟩ := dec n hn
    have h0 : (F.map TframeOf.page_).drop i = [] := List.drop_eq_nil_of_le (by rw [List.length_map]; omega)
    rw [m69_quirref_Clock_L4, m69_quirref_Clock_L4B, if_neg (by omega), h0]
    rfl
  | succ r ih =>
    intro i hi n hn
    obtain ⟨n, rfl⟩ := dec n (by omega)
    have h1 : i < F.length := by omega
    have h1' : i < (F.map TframeOf.page_).length := by rw [List.length_map]; exact h1
    rw [m69_quirref_Clock_L4, m69_quirref_Clock_L4B, if_pos (by omega), idx_ok h1, bind1_some, drop_cons h1', m69_quirref_Clock_K9, List.getElem_map]
    by_cases c : x = F[i].page_
    · rw [if_pos (by simp [c])]
      have e : ixN x (F[i].page_ :: (F.map TframeOf.page_).drop (i + 1)) = 0 := by simp [ixN, c]
      rw [e, if_pos (by simp)]
      rfl
    · rw [if_neg (by simp only [decide_eq_true_eq]; exact fun h => c h.symm), isucc i (by omega), bind1_some, ih (i + 1) (by omega) n (by omega)]
      simp only [ixN, if_neg c, List.length_cons]
      by_cases d : ixN x ((F.map TframeOf.page_).drop (i + 1)) < ((F.map TframeOf.page_).drop (i + 1)).length
      · rw [if_pos d, if_pos (by omega)]
        congr 2; omega
      · rw [if_neg d, if_neg (by omega)]
theorem list_eq (F : FL) (hF : F.length ≤ 1000000) {h8 : List Bool} : ∀ (r i : Nat), i + r = F.length → ∀ n, r < n → m69_quirref_Clock_L1 F h8 n ((F.map TframeOf.page_).take i) i = some (h8, F.map TframeOf.page_) := by
  intro r
  induction r with
  | zero =>
    intro i hi n hn
    obtain ⟨n, rfl⟩ := dec n hn
    rw [m69_quirref_Clock_L1, m69_quirref_Clock_L1B, if_neg (by omega), List.take_of_length_le (by rw [List.length_map]; omega)]
    rfl
  | succ r ih =>
    intro i hi n hn
    obtain ⟨n, rfl⟩ := dec n (by omega)
    have h1 : i < F.length := by omega
    have h1' : i < (F.map TframeOf.page_).length := by rw [List.length_map]; exact h1
    rw [m69_quirref_Clock_L1, m69_quirref_Clock_L1B, if_pos (by omega), idx_ok h1, bind1_some, app_ok (by rw [List.length_take, List.length_singleton]; omega), bind1_some, isucc i (by omega), bind1_some, ← ih (i + 1) (by omega) n (by omega), take_snoc h1', List.getElem_map]
theorem clock_sim (hs : 1 ≤ s ∧ s ≤ 50) (hl : refs.length ≤ 2000) : ∀ (d i : Nat), i + d = refs.length → ∀ hits (F : FL) (hand : Nat), hits.length = i → F.length ≤ s → hand ≤ i * 60 → ∀ n n', d < n → d < n' →
    ∃ h' k', m68_pool_Clock_L1 refs s n hits (F.map TframeOf.page_) (F.map TframeOf.mark_) ((hand % s : Nat) : Int) i = some (h', k', 0) ∧ m69_quirref_Clock_L2 refs s n' F hits hand i = some (h', k') ∧ h'.length ≤ 2000 ∧ k'.length ≤ 50 := by
  intro d
  induction d with
  | zero =>
    intro i hi hits F hand hh hF hb n n' hn hn'
    obtain ⟨n, rfl⟩ := dec n hn
    obtain ⟨n', rfl⟩ := dec n' hn'
    refine ⟨hits, F.map TframeOf.page_, ?_, ?_, by omega, by rw [List.length_map]; omega⟩
    · rw [m68_pool_Clock_L1, m68_pool_Clock_L1B, if_neg (by omega)]; rfl
    · rw [m69_quirref_Clock_L2, m69_quirref_Clock_L2B, if_neg (by omega), m69_quirref_Clock_K1]
      exact list_eq F (by omega) F.length 0 (by omega) big (lt_big (by omega))
  | succ d ih =>
    intro i hi hits F hand hh hF hb n n' hn hn'
    obtain ⟨n, rfl⟩ := dec n (by omega)
    obtain ⟨n', rfl⟩ := dec n' (by omega)
    have hi' : i < refs.length := by omega
    have hpl : (F.map TframeOf.page_).length = F.length := List.length_map ..
    have hlk := look_eq F (by omega) (x := refs[i]) (h8 := hits) (gi := (i : Int)) (hand := (hand : Int)) (a0 := (s : Int)) (go2 := m69_quirref_Clock_L2 refs s n') F.length 0 (by omega) big (lt_big (by omega))
    simp only [List.drop_zero, Nat.zero_add] at hlk
    have hlk' : m69_quirref_Clock_L4 F refs[i] hits (i : Int) (m69_quirref_Clock_L2 refs s n') hand s big 0 = m69_quirref_Clock_K4 hits F i (m69_quirref_Clock_L2 refs s n') hand s refs[i] (ixI refs[i] (F.map TframeOf.page_)) := hlk
    rw [m68_pool_Clock_L1, m68_pool_Clock_L1B, if_pos (by omega), idx_ok hi', bind1_some, index_eq _ _ (by omega), bind1_some,
      m69_quirref_Clock_L2, m69_quirref_Clock_L2B, if_pos (by omega), idx_ok hi', bind1_some, hlk', m69_quirref_Clock_K4]
    by_cases hx : refs[i] ∈ F.map TframeOf.page_
    · have hq := (ixN_mem refs[i] (F.map TframeOf.page_)).2 hx
      have hq' : ixN refs[i] (F.map TframeOf.page_) < F.length := by omega
      rw [dT hx, app_ok (by simp only [List.length_singleton]; omega), bind1_some, bind1_some, if_pos ((ixI_nonneg _ _).2 hx), if_pos ((ixI_nonneg _ _).2 hx), ixI_mem hx, idx_ok (by rw [List.length_map]; exact hq'), bind1_some, upd_ok _ (by rw [List.length_map]; exact hq'), bind1_some, idx_ok hq', bind1_some, upd_ok _ hq', bind1_some,
        m68_pool_Clock_K3, isucc i (by omega), bind1_some, m69_quirref_Clock_K3, isucc i (by omega), bind1_some]
      have := ih (i + 1) (by omega) (hits ++ [true]) (F.set (ixN refs[i] (F.map TframeOf.page_)) ⟨F[ixN refs[i] (F.map TframeOf.page_)].page_, true⟩) hand (by simp [hh]) (by rw [List.length_set]; exact hF) (by omega) n n' (by omega) (by omega)
      rw [page_set F _ hq', List.map_set] at this
      exact this
    · rw [dF hx, app_ok (by simp only [List.length_singleton]; omega), bind1_some, bind1_some, if_neg (fun h => hx ((ixI_nonneg _ _).1 h)), if_neg (fun h => hx ((ixI_nonneg _ _).1 h)), m69_quirref_Clock_K5]
      by_cases hsz : F.length < s
      · rw [if_pos (by omega), if_pos (by omega), app_ok (by simp only [List.length_singleton]; omega), bind1_some, app_ok (by rw [List.length_map]; simp only [List.length_singleton]; omega), bind1_some, app_ok (by simp only [List.length_singleton]; omega), bind1_some,
          m68_pool_Clock_K3, isucc i (by omega), bind1_some, m69_quirref_Clock_K3, isucc i (by omega), bind1_some]
        have := ih (i + 1) (by omega) (hits ++ [false]) (F ++ [⟨refs[i], true⟩]) hand (by simp [hh]) (by rw [List.length_append, List.length_singleton]; omega) (by omega) n n' (by omega) (by omega)
        rw [List.map_append, List.map_append] at this
        exact this
      · have hFs : F.length = s := by omega
        have hml := marks_le F
        obtain ⟨F', hand', h1, h2, h3, h4, h5⟩ := hand_eq hs (x := refs[i]) (gi := (i : Int)) (go1 := m68_pool_Clock_L1 refs s n) (go2 := m69_quirref_Clock_L2 refs s n') (h8 := hits ++ [false]) (marks F) F hand rfl hFs (by omega) big big (lt_big (by omega)) (lt_big (by omega))
        have hlt : hand' % s < F'.length := by rw [h1]; exact Nat.mod_lt _ (by omega)
        rw [if_neg (by omega), if_neg (by omega), m68_pool_Clock_K4, h4, m69_quirref_Clock_K6, h5, m68_pool_Clock_K5, m69_quirref_Clock_K7, idx_ok (by rw [List.length_map]; exact hlt), bind1_some, upd_ok _ (by rw [List.length_map]; exact hlt), bind1_some, idx_ok (by rw [List.length_map]; exact hlt), bind1_some, upd_ok _ (by rw [List.length_map]; exact hlt), bind1_some,
          isucc _ (by have := Nat.mod_lt hand' (show s > 0 by omega); omega), bind1_some, modW_nat _ s (by omega), bind1_some, modW_nat hand' s (by omega), bind1_some, idx_ok hlt, bind1_some, upd_ok _ hlt, bind1_some, isucc hand' (by omega), bind1_some,
          m68_pool_Clock_K3, isucc i (by omega), bind1_some, m69_quirref_Clock_K3, isucc i (by omega), bind1_some, Nat.mod_add_mod]
        have := ih (i + 1) (by omega) (hits ++ [false]) (F'.set (hand' % s) ⟨refs[i], true⟩) (hand' + 1) (by simp [hh]) (by rw [List.length_set]; omega) (by omega) n n' (by omega) (by omega)
        rw [List.map_set, List.map_set] at this
        exact this
theorem clock_eq (hs : 1 ≤ s ∧ s ≤ 50) (hl : refs.length ≤ 2000) : ∃ h k, m68_pool_Clock s refs = some (h, k, 0) ∧ m69_quirref_Clock s refs = some (h, k) ∧ h.length ≤ 2000 ∧ k.length ≤ 50 := by
  rw [m68_pool_Clock, check_ok hs hl, bind1_some, if_neg (by simp), m68_pool_Clock_K1, m69_quirref_Clock]
  have := clock_sim hs hl refs.length 0 (by omega) [] [] 0 rfl (by simp) (by omega) big big (lt_big (by omega)) (lt_big (by omega))
  simpa using this
end
/-! ### The law -/
theorem eqB_refl (l : List Bool) (hl : l.length ≤ 1000000) : ∀ (r i : Nat), i + r = l.length → ∀ n, r < n → m42_slices_Equal_bool_L1 l l n (i : Int) = some true := by
  intro r
  induction r with
  | zero =>
    intro i hi n hn
    obtain ⟨n, rfl⟩ := dec n hn
    rw [m42_slices_Equal_bool_L1, m42_slices_Equal_bool_L1B, if_neg (by omega)]; rfl
  | succ r ih =>
    intro i hi n hn
    obtain ⟨n, rfl⟩ := dec n (by omega)
    have h1 : i < l.length := by omega
    rw [m42_slices_Equal_bool_L1, m42_slices_Equal_bool_L1B, if_pos (by omega), idx_ok h1, bind1_some, bind1_some, if_neg (by simp), isucc i (by omega), bind1_some]
    exact ih (i + 1) (by omega) n (by omega)
theorem eqI_refl (l : List Int) (hl : l.length ≤ 1000000) : ∀ (r i : Nat), i + r = l.length → ∀ n, r < n → m71_slices_Equal_int_L1 l l n (i : Int) = some true := by
  intro r
  induction r with
  | zero =>
    intro i hi n hn
    obtain ⟨n, rfl⟩ := dec n hn
    rw [m71_slices_Equal_int_L1, m71_slices_Equal_int_L1B, if_neg (by omega)]; rfl
  | succ r ih =>
    intro i hi n hn
    obtain ⟨n, rfl⟩ := dec n (by omega)
    have h1 : i < l.length := by omega
    rw [m71_slices_Equal_int_L1, m71_slices_Equal_int_L1B, if_pos (by omega), idx_ok h1, bind1_some, bind1_some, if_neg (by simp), isucc i (by omega), bind1_some]
    exact ih (i + 1) (by omega) n (by omega)
end Go.Proofs.Ytfmgjigdebofaaa
