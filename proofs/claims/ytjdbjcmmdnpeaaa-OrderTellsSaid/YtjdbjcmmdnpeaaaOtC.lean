/-
  Stories: which are right.
  Conditions: the reads of each tale are at most 1048576.
-/
import Derived.Test.YtjdbjcmmdnpeaaaOtM
import Derived.Test.YtjdbjcmmdnpeaaaJ
namespace Go.Proofs.Ytjdbjcmmdnpeaaa
open Go.S
set_option linter.unusedVariables false
set_option linter.unusedSimpArgs false

/-! ### Where a number is -/
def fi (x : Int) : Int → List Int → Int
  | _, [] => -1
  | i, y :: r => if x = y then i else fi x (i + 1) r
theorem fi_eq (l : List Int) (x : Int) (hl : l.length ≤ 1000000000000) : ∀ (r i : Nat), i + r = l.length → ∀ n, r < n → m20_slices_Index_int_L1 l x n (i : Int) = some (fi x (i : Int) (l.drop i)) := by
  intro r
  induction r with
  | zero =>
    intro i hi n hn
    obtain ⟨n, rfl⟩ := dec n hn
    rw [m20_slices_Index_int_L1, m20_slices_Index_int_L1B, if_neg (by omega), m20_slices_Index_int_K1, List.drop_eq_nil_of_le (by omega), fi]
  | succ r ih =>
    intro i hi n hn
    obtain ⟨n, rfl⟩ := dec n (by omega)
    have h1 : i < l.length := by omega
    rw [m20_slices_Index_int_L1, m20_slices_Index_int_L1B, if_pos (by omega), idx_ok h1, bind1_some, drop_cons h1, fi]
    by_cases c : x = l[i]
    · rw [if_pos c, if_pos c]
    · rw [if_neg c, if_neg c, isucc i (by omega), bind1_some, ih (i + 1) (by omega) n (by omega)]
      rfl
theorem index_eq (l : List Int) (x : Int) (hl : l.length ≤ 1000000000000) : m20_slices_Index_int l x = some (fi x 0 l) := by
  have h := fi_eq l x hl l.length 0 (by omega) big (lt_big (by omega))
  rw [show ((0 : Nat) : Int) = 0 from rfl, List.drop_zero] at h
  rw [m20_slices_Index_int, h]
theorem fi_spec (x : Int) : ∀ (l : List Int) (i : Int), (fi x i l = -1 ∧ x ∉ l) ∨ ∃ j : Nat, fi x i l = i + j ∧ l[j]? = some x ∧ x ∉ l.take j
  | [], i => .inl ⟨rfl, by simp⟩
  | y :: l, i => by
    rw [fi]
    by_cases c : x = y
    · rw [if_pos c]; exact .inr ⟨0, by simp, by simp [c], by simp⟩
    · rw [if_neg c]
      rcases fi_spec x l (i + 1) with ⟨h1, h2⟩ | ⟨j, h1, h2, h3⟩
      · exact .inl ⟨h1, by simp [c, h2]⟩
      · exact .inr ⟨j + 1, by rw [h1]; omega, by simpa using h2, by simp [c, h3]⟩
theorem fi_has (x : Int) (l : List Int) : 0 ≤ fi x 0 l ↔ x ∈ l := by
  rcases fi_spec x l 0 with ⟨h1, h2⟩ | ⟨j, h1, h2, _⟩
  · rw [h1]; simp [h2]
  · rw [h1]
    constructor
    · intro _; exact List.mem_of_getElem? h2
    · intro _; omega
theorem contains_eq (l : List Int) (x : Int) (hl : l.length ≤ 1000000000000) : m7_slices_Contains_int l x = some (decide (x ∈ l)) := by
  rw [m7_slices_Contains_int, index_eq l x hl, bind1_some]
  congr 1
  rw [decide_eq_decide]
  exact fi_has x l
theorem fi_first {x : Int} {l : List Int} {j : Nat} (hj : j < l.length) (hx : l[j] = x) : fi x 0 l = (j : Int) ↔ x ∉ l.take j := by
  rcases fi_spec x l 0 with ⟨h1, h2⟩ | ⟨k, h1, h2, h3⟩
  · exact absurd (by rw [← hx]; exact List.getElem_mem hj) h2
  · rw [h1]
    have hk := (List.getElem?_eq_some_iff.1 h2)
    constructor
    · intro h
      have : k = j := by omega
      rw [← this]; exact h3
    · intro h
      have hjk : ¬k < j := fun hlt => h (List.mem_take_iff_getElem.2 ⟨k, by omega, hk.2⟩)
      have hkj : ¬j < k := fun hlt => h3 (List.mem_take_iff_getElem.2 ⟨j, by omega, hx⟩)
      omega

/-! ### Is there such a tale -/
def isT (s : TStory) (w : Int) : Bool := s.Tales.any fun t => decide (t.Tx = w)
theorem anyT_cons {l : List TTale} {k : Nat} (h : k < l.length) (w : Int) : (l.drop k).any (fun t => decide (t.Tx = w)) = (decide (l[k].Tx = w) || (l.drop (k + 1)).any fun t => decide (t.Tx = w)) := by rw [drop_cons h, List.any_cons]
theorem isT1 (s : TStory) (hs : s.Tales.length ≤ 12) (w : Int) (x4 : List Int) (gx2 : Int) (go2 : Int → Option Int) : ∀ (r k : Nat), k + r = s.Tales.length → ∀ n, r < n →
    m14_quirref_StoryErr_L3 s w x4 gx2 go2 n (k : Int) = m14_quirref_StoryErr_K5 x4 w gx2 go2 ((s.Tales.drop k).any fun t => decide (t.Tx = w)) := by
  intro r
  induction r with
  | zero =>
    intro k hk n hn
    obtain ⟨n, rfl⟩ := dec n hn
    rw [m14_quirref_StoryErr_L3, m14_quirref_StoryErr_L3B, if_neg (by omega), m14_quirref_StoryErr_K8, m14_quirref_StoryErr_K7, m14_quirref_StoryErr_K6, List.drop_eq_nil_of_le (by omega)]
    rfl
  | succ r ih =>
    intro k hk n hn
    obtain ⟨n, rfl⟩ := dec n (by omega)
    have h1 : k < s.Tales.length := by omega
    rw [m14_quirref_StoryErr_L3, m14_quirref_StoryErr_L3B, if_pos (by omega), idx_ok h1, bind1_some, m14_quirref_StoryErr_K9, anyT_cons h1]
    by_cases c : s.Tales[k].Tx = w
    · rw [if_pos (by simp [c]), m14_quirref_StoryErr_K7, m14_quirref_StoryErr_K6, decide_eq_true (show (0 : Int) ≤ k by omega), decide_eq_true c, Bool.true_or]
    · rw [if_neg (by simp [c]), isucc k (by omega), bind1_some, ih (k + 1) (by omega) n (by omega), decide_eq_false c, Bool.false_or]
theorem isT2 (s : TStory) (hs : s.Tales.length ≤ 12) (w : Int) (gx2 : Int) (go2 : Int → Option Int) : ∀ (r k : Nat), k + r = s.Tales.length → ∀ n, r < n →
    m11_order_Check_L3 s w gx2 go2 n (k : Int) = m11_order_Check_K5 gx2 go2 ((s.Tales.drop k).any fun t => decide (t.Tx = w)) := by
  intro r
  induction r with
  | zero =>
    intro k hk n hn
    obtain ⟨n, rfl⟩ := dec n hn
    rw [m11_order_Check_L3, m11_order_Check_L3B, if_neg (by omega), m11_order_Check_K7, m11_order_Check_K6, List.drop_eq_nil_of_le (by omega)]
    rfl
  | succ r ih =>
    intro k hk n hn
    obtain ⟨n, rfl⟩ := dec n (by omega)
    have h1 : k < s.Tales.length := by omega
    rw [m11_order_Check_L3, m11_order_Check_L3B, if_pos (by omega), idx_ok h1, bind1_some, m11_order_Check_K8, anyT_cons h1]
    by_cases c : s.Tales[k].Tx = w
    · rw [if_pos (by simp [c]), m11_order_Check_K6, decide_eq_true (show (0 : Int) ≤ k by omega), decide_eq_true c, Bool.true_or]
    · rw [if_neg (by simp [c]), isucc k (by omega), bind1_some, ih (k + 1) (by omega) n (by omega), decide_eq_false c, Bool.false_or]

/-! ### A right story -/
/-- None is too large. -/
structure Lim (s : TStory) : Prop where
  rd : ∀ t ∈ s.Tales, t.Reads.length ≤ 1048576
  vs : ∀ l ∈ s.Versions, l.length ≤ 1048576
structure GotOk (s : TStory) (t : TTale) (g : TGot) : Prop where
  i0 : 0 ≤ g.Item
  i1 : g.Item < s.Versions.length
  ne : g.From ≠ t.Tx
  src : g.From = -1 ∨ ∀ l, idx s.Versions g.Item = some l → g.From ∈ l
structure VerOk (s : TStory) (l : List Int) : Prop where
  tale : ∀ w ∈ l, isT s w = true
  once : ∀ j (h : j < l.length), l[j] ∉ l.take j
structure GoodS (s : TStory) : Prop where
  nt : s.Tales.length ≤ 12
  nv : s.Versions.length ≤ 20
  tx : ∀ t ∈ s.Tales, 0 ≤ t.Tx ∧ t.Tx < 12
  got : ∀ t ∈ s.Tales, ∀ g ∈ t.Reads, GotOk s t g
  ver : ∀ l ∈ s.Versions, VerOk s l
  inc : ∀ q (h : q + 1 < s.Tales.length), s.Tales[q].Tx < s.Tales[q + 1].Tx
def Both (e1 e2 : Option Int) (p : Prop) : Prop := ∃ e, e1 = some e ∧ e2 = some e ∧ (e = 0 → p)
theorem Both.bad {p : Prop} {e : Int} (he : e ≠ 0) : Both (some e) (some e) p := ⟨e, rfl, rfl, fun h => absurd h he⟩
theorem Both.imp {a b : Option Int} {p q : Prop} (h : Both a b p) (hq : p → q) : Both a b q := by
  obtain ⟨e, h1, h2, h3⟩ := h
  exact ⟨e, h1, h2, fun h => hq (h3 h)⟩
theorem verL2 (s : TStory) (hs : s.Tales.length ≤ 12) (l : List Int) (hl : l.length ≤ 1048576) (gx1 : Int) (go1 go1' : Int → Option Int) {p : Prop} (hgo : (VerOk s l → Both (m14_quirref_StoryErr_K4 gx1 go1) (m11_order_Check_K4 gx1 go1') p)) : ∀ (r j : Nat), j + r = l.length → (∀ w ∈ l.take j, isT s w = true) → (∀ i (h : i < l.length), i < j → l[i] ∉ l.take i) → ∀ n n', r < n → r < n' →
    Both (m14_quirref_StoryErr_L2 l s gx1 go1 n (j : Int)) (m11_order_Check_L2 l s gx1 go1' n' (j : Int)) p := by
  intro r
  induction r with
  | zero =>
    intro j hj h1 h2 n n' hn hn'
    obtain ⟨n, rfl⟩ := dec n hn
    obtain ⟨n', rfl⟩ := dec n' hn'
    rw [m14_quirref_StoryErr_L2, m14_quirref_StoryErr_L2B, m11_order_Check_L2, m11_order_Check_L2B, if_neg (by omega), if_neg (by omega)]
    rw [List.take_of_length_le (by omega)] at h1
    exact hgo ⟨h1, fun i hi => h2 i hi (by omega)⟩
  | succ r ih =>
    intro j hj h1 h2 n n' hn hn'
    obtain ⟨n, rfl⟩ := dec n (by omega)
    obtain ⟨n', rfl⟩ := dec n' (by omega)
    have hjl : j < l.length := by omega
    have h3 := isT1 s hs l[j] l (j : Int) (m14_quirref_StoryErr_L2 l s gx1 go1 n) s.Tales.length 0 (by omega) big (lt_big (by omega))
    have h4 := isT2 s hs l[j] (j : Int) (m11_order_Check_L2 l s gx1 go1' n') s.Tales.length 0 (by omega) big (lt_big (by omega))
    rw [show ((0 : Nat) : Int) = 0 from rfl, List.drop_zero] at h3 h4
    change _ = m14_quirref_StoryErr_K5 l l[j] (j : Int) _ (isT s l[j]) at h3
    change _ = m11_order_Check_K5 (j : Int) _ (isT s l[j]) at h4
    rw [m14_quirref_StoryErr_L2, m14_quirref_StoryErr_L2B, m11_order_Check_L2, m11_order_Check_L2B, if_pos (by omega), if_pos (by omega), idx_ok hjl, bind1_some, bind1_some, cut_take l j (by omega), bind1_some, contains_eq _ _ (by rw [List.length_take]; omega), bind1_some, h3]
    by_cases c : l[j] ∈ l.take j
    · rw [if_pos (by simp [c]), m14_quirref_StoryErr_K5]
      by_cases c2 : isT s l[j] = true
      · rw [if_pos c2, index_eq l _ (by omega), bind1_some, if_pos (fun h => (fi_first hjl rfl).1 h c)]
        exact Both.bad (by decide)
      · rw [if_neg c2]
        exact Both.bad (by decide)
    · rw [if_neg (by simp [c]), h4, m14_quirref_StoryErr_K5, m11_order_Check_K5]
      by_cases c2 : isT s l[j] = true
      · rw [if_pos c2, if_pos c2, index_eq l _ (by omega), bind1_some, if_neg (by rw [(fi_first hjl rfl).2 c]; simp), isucc j (by omega), bind1_some, bind1_some]
        refine ih (j + 1) (by omega) (fun w hw => ?_) (fun i hi hij => ?_) n n' (by omega) (by omega)
        · rw [take_snoc hjl, List.mem_append, List.mem_singleton] at hw
          rcases hw with hw | hw
          · exact h1 w hw
          · rw [hw]; exact c2
        · by_cases e : i = j
          · subst e; exact c
          · exact h2 i hi (by omega)
      · rw [if_neg c2, if_neg c2]
        exact Both.bad (by decide)
theorem verL1 (s : TStory) (hs : s.Tales.length ≤ 12) (hv : s.Versions.length ≤ 20) (hlim : Lim s) : ∀ (r i : Nat), i + r = s.Versions.length → (∀ l ∈ s.Versions.take i, VerOk s l) → ∀ n n', r < n → r < n' →
    Both (m14_quirref_StoryErr_L1 s n (i : Int)) (m11_order_Check_L1 s n' (i : Int)) (∀ l ∈ s.Versions, VerOk s l) := by
  intro r
  induction r with
  | zero =>
    intro i hi h1 n n' hn hn'
    obtain ⟨n, rfl⟩ := dec n hn
    obtain ⟨n', rfl⟩ := dec n' hn'
    rw [List.take_of_length_le (by omega)] at h1
    rw [m14_quirref_StoryErr_L1, m14_quirref_StoryErr_L1B, m11_order_Check_L1, m11_order_Check_L1B, if_neg (by omega), if_neg (by omega), m14_quirref_StoryErr_K3, m11_order_Check_K3]
    exact ⟨0, rfl, rfl, fun _ => h1⟩
  | succ r ih =>
    intro i hi h1 n n' hn hn'
    obtain ⟨n, rfl⟩ := dec n (by omega)
    obtain ⟨n', rfl⟩ := dec n' (by omega)
    have hil : i < s.Versions.length := by omega
    have hll := hlim.vs _ (List.getElem_mem hil)
    rw [m14_quirref_StoryErr_L1, m14_quirref_StoryErr_L1B, m11_order_Check_L1, m11_order_Check_L1B, if_pos (by omega), if_pos (by omega), idx_ok hil, bind1_some, bind1_some]
    have h2 := verL2 s hs s.Versions[i] hll (i : Int) (m14_quirref_StoryErr_L1 s n) (m11_order_Check_L1 s n') (p := ∀ l ∈ s.Versions, VerOk s l) (fun hok => by
      rw [m14_quirref_StoryErr_K4, m11_order_Check_K4, isucc i (by omega), bind1_some, bind1_some]
      refine ih (i + 1) (by omega) (fun l hl => ?_) n n' (by omega) (by omega)
      rw [take_snoc hil, List.mem_append, List.mem_singleton] at hl
      rcases hl with hl | hl
      · exact h1 l hl
      · rw [hl]; exact hok) s.Versions[i].length 0 (by omega) (by simp) (fun i hi h => absurd h (by omega)) big big (lt_big (by omega)) (lt_big (by omega))
    rw [show ((0 : Nat) : Int) = 0 from rfl] at h2
    exact h2
theorem rdL5 (s : TStory) (hlim : Lim s) (hv : s.Versions.length ≤ 20) (t : TTale) (ht : t ∈ s.Tales) (gx8 : Int) (go4 : Int → Int → Option Int) (go4' : Int → Option Int) {p : Prop} (hgo : (∀ g ∈ t.Reads, GotOk s t g) → Both (m14_quirref_StoryErr_K10 gx8 go4 t.Tx) (m11_order_Check_K9 gx8 go4') p) : ∀ (r j : Nat), j + r = t.Reads.length → (∀ g ∈ t.Reads.take j, GotOk s t g) → ∀ n n', r < n → r < n' →
    Both (m14_quirref_StoryErr_L5 t s gx8 go4 n (j : Int)) (m11_order_Check_L5 t s gx8 go4' n' (j : Int)) p := by
  have hrl := hlim.rd t ht
  intro r
  induction r with
  | zero =>
    intro j hj h1 n n' hn hn'
    obtain ⟨n, rfl⟩ := dec n hn
    obtain ⟨n', rfl⟩ := dec n' hn'
    rw [List.take_of_length_le (by omega)] at h1
    rw [m14_quirref_StoryErr_L5, m14_quirref_StoryErr_L5B, m11_order_Check_L5, m11_order_Check_L5B, if_neg (by omega), if_neg (by omega)]
    exact hgo h1
  | succ r ih =>
    intro j hj h1 n n' hn hn'
    obtain ⟨n, rfl⟩ := dec n (by omega)
    obtain ⟨n', rfl⟩ := dec n' (by omega)
    have hjl : j < t.Reads.length := by omega
    rw [m14_quirref_StoryErr_L5, m14_quirref_StoryErr_L5B, m11_order_Check_L5, m11_order_Check_L5B, if_pos (by omega), if_pos (by omega), idx_ok hjl, bind1_some, bind1_some]
    generalize hgg : t.Reads[j] = g
    have hnext : GotOk s t g → Both (m14_quirref_StoryErr_L5 t s gx8 go4 n ((j + 1 : Nat) : Int)) (m11_order_Check_L5 t s gx8 go4' n' ((j + 1 : Nat) : Int)) p := fun hok => by
      refine ih (j + 1) (by omega) (fun q hq => ?_) n n' (by omega) (by omega)
      rw [take_snoc hjl, List.mem_append, List.mem_singleton, hgg] at hq
      rcases hq with hq | hq
      · exact h1 q hq
      · rw [hq]; exact hok
    by_cases c1 : g.Item < 0
    · rw [if_pos c1, if_pos c1, m14_quirref_StoryErr_K14, if_pos rfl, m11_order_Check_K12, if_pos rfl]
      exact Both.bad (by decide)
    rw [if_neg c1, if_neg c1]
    by_cases c2 : (s.Versions.length : Int) ≤ g.Item
    · rw [if_pos c2, if_pos c2, m14_quirref_StoryErr_K14, if_pos rfl, m11_order_Check_K12, if_pos rfl]
      exact Both.bad (by decide)
    rw [if_neg c2, if_neg c2, m14_quirref_StoryErr_K14, if_neg ff, m11_order_Check_K12, if_neg ff]
    by_cases c3 : g.From = t.Tx
    · rw [if_pos c3, if_pos c3]
      exact Both.bad (by decide)
    rw [if_neg c3, if_neg c3, m14_quirref_StoryErr_K13]
    by_cases c4 : g.From ≠ -1
    · obtain ⟨q, hq⟩ := Int.eq_ofNat_of_zero_le (show 0 ≤ g.Item by omega)
      have hql : q < s.Versions.length := by omega
      have hqv := hlim.vs _ (List.getElem_mem hql)
      rw [if_pos c4, if_pos c4, hq, idx_ok hql, bind1_some, bind1_some, contains_eq _ _ (by omega), bind1_some, bind1_some]
      by_cases c5 : g.From ∈ s.Versions[q]
      · rw [if_pos (by simp [c5]), if_pos (by simp [c5]), isucc j (by omega), bind1_some, bind1_some]
        refine hnext ⟨by omega, by omega, c3, .inr fun l hl => ?_⟩
        rw [hq, idx_ok hql, Option.some.injEq] at hl
        rw [← hl]; exact c5
      · rw [if_neg (by simp [c5]), if_neg (by simp [c5])]
        exact Both.bad (by decide)
    · rw [if_neg c4, if_neg c4, isucc j (by omega), bind1_some, bind1_some]
      exact hnext ⟨by omega, by omega, c3, .inl (by simpa using c4)⟩
theorem talesL4 (s : TStory) (hs : s.Tales.length ≤ 12) (hv : s.Versions.length ≤ 20) (hlim : Lim s) : ∀ (r i : Nat), i + r = s.Tales.length → (∀ t ∈ s.Tales.take i, (0 ≤ t.Tx ∧ t.Tx < 12) ∧ ∀ g ∈ t.Reads, GotOk s t g) → (∀ q (h : q + 1 < s.Tales.length), q + 1 < i → s.Tales[q].Tx < s.Tales[q + 1].Tx) → ∀ la : Int, (i = 0 → la = -1) → (∀ h : i - 1 < s.Tales.length, 0 < i → la = s.Tales[i - 1].Tx) → ∀ n n', r < n → r < n' →
    Both (m14_quirref_StoryErr_L4 s n la (i : Int)) (m11_order_Check_L4 s n' (i : Int)) (GoodS s) := by
  intro r
  induction r with
  | zero =>
    intro i hi h1 hinc la h2 h3 n n' hn hn'
    obtain ⟨n, rfl⟩ := dec n hn
    obtain ⟨n', rfl⟩ := dec n' hn'
    rw [List.take_of_length_le (by omega)] at h1
    have h4 := verL1 s hs hv hlim s.Versions.length 0 (by omega) (by simp) big big (lt_big (by omega)) (lt_big (by omega))
    rw [show ((0 : Nat) : Int) = 0 from rfl] at h4
    rw [m14_quirref_StoryErr_L4, m14_quirref_StoryErr_L4B, m11_order_Check_L4, m11_order_Check_L4B, if_neg (by omega), if_neg (by omega), m14_quirref_StoryErr_K2, m11_order_Check_K2]
    exact h4.imp fun hver => ⟨hs, hv, fun t ht => (h1 t ht).1, fun t ht => (h1 t ht).2, hver, fun q hq => hinc q hq (by omega)⟩
  | succ r ih =>
    intro i hi h1 hinc la h2 h3 n n' hn hn'
    obtain ⟨n, rfl⟩ := dec n (by omega)
    obtain ⟨n', rfl⟩ := dec n' (by omega)
    have hil : i < s.Tales.length := by omega
    rw [m14_quirref_StoryErr_L4, m14_quirref_StoryErr_L4B, m11_order_Check_L4, m11_order_Check_L4B, if_pos (by omega), if_pos (by omega), idx_ok hil, bind1_some, bind1_some]
    by_cases c1 : s.Tales[i].Tx < 0
    · rw [if_pos c1, if_pos c1]; exact Both.bad (by decide)
    rw [if_neg c1, if_neg c1]
    by_cases c2 : 11 < s.Tales[i].Tx
    · rw [if_pos c2, if_pos (by omega)]; exact Both.bad (by decide)
    rw [if_neg c2, if_neg (by omega), m14_quirref_StoryErr_K11, m11_order_Check_K10]
    have hmem := List.getElem_mem hil
    have hrl := hlim.rd _ hmem
    have h5 := fun hp : (∀ h : i - 1 < s.Tales.length, 0 < i → s.Tales[i - 1].Tx < s.Tales[i].Tx) => rdL5 s hlim hv s.Tales[i] hmem (i : Int) (m14_quirref_StoryErr_L4 s n) (m11_order_Check_L4 s n') (p := GoodS s) (fun hok => by
      rw [m14_quirref_StoryErr_K10, m11_order_Check_K9, isucc i (by omega), bind1_some, bind1_some]
      refine ih (i + 1) (by omega) (fun t ht => ?_) (fun q hq hqi => ?_) _ (by omega) (fun h _ => ?_) n n' (by omega) (by omega)
      · rw [take_snoc hil, List.mem_append, List.mem_singleton] at ht
        rcases ht with ht | ht
        · exact h1 t ht
        · rw [ht]; exact ⟨⟨by omega, by omega⟩, hok⟩
      · by_cases c : q + 1 < i
        · exact hinc q hq c
        · obtain rfl : i = q + 1 := by omega
          exact hp (by omega) (by omega)
      · rfl) s.Tales[i].Reads.length 0 (by omega) (by simp) big big (lt_big (by omega)) (lt_big (by omega))
    by_cases c3 : i = 0
    · rw [h2 c3, if_neg (by omega), if_neg (by omega), m14_quirref_StoryErr_K12, m11_order_Check_K11]
      exact h5 (fun _ h => absurd h (by omega))
    · have h6 : i - 1 < s.Tales.length := by omega
      rw [if_pos (by omega : (0 : Int) < (i : Int)), ipred i (by omega) (by omega), bind1_some, idx_ok h6, bind1_some, h3 h6 (by omega)]
      by_cases c4 : s.Tales[i].Tx ≤ s.Tales[i - 1].Tx
      · rw [if_pos c4, if_pos c4]; exact Both.bad (by decide)
      · rw [if_neg c4, if_neg c4, m14_quirref_StoryErr_K12, m11_order_Check_K11]
        exact h5 (fun _ _ => by omega)
theorem story_eq (s : TStory) (hlim : Lim s) : Both (m14_quirref_StoryErr s) (m11_order_Check s) (GoodS s) := by
  rw [m14_quirref_StoryErr, m11_order_Check]
  by_cases c1 : 12 < (s.Tales.length : Int)
  · rw [if_pos c1, if_pos c1]; exact Both.bad (by decide)
  rw [if_neg c1, if_neg c1]
  by_cases c2 : 20 < (s.Versions.length : Int)
  · rw [if_pos c2, if_pos c2]; exact Both.bad (by decide)
  rw [if_neg c2, if_neg c2, m14_quirref_StoryErr_K1, m11_order_Check_K1]
  have h := talesL4 s (by omega) (by omega) hlim s.Tales.length 0 (by omega) (by simp) (by omega) (-1) (fun _ => rfl) (by omega) big big (lt_big (by omega)) (lt_big (by omega))
  rw [show ((0 : Nat) : Int) = 0 from rfl] at h
  exact h
end Go.Proofs.Ytjdbjcmmdnpeaaa
