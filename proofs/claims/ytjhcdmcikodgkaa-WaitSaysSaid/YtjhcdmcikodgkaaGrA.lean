/-
  An order of a graph's nodes: the models of both answer alike.
  Conditions: none.
-/
import Derived.Test.YtjhcdmcikodgkaaGrM
import Derived.Test.YtjhcdmcikodgkaaJ
namespace Go.Proofs.Ytjhcdmcikodgkaa
open Go.S
set_option linter.unusedVariables false
set_option linter.unusedSimpArgs false

/-! ### Words -/
theorem mk_ok {α : Type} {n : Nat} (z : α) (h : n ≤ 1000000) : mk (n : Int) z = some (List.replicate n z) := by
  unfold mk
  rw [if_pos ⟨by omega, by omega⟩, Int.toNat_natCast]
theorem xSort_ok {l : List Int} (h : l.length < 4611686018427387904) : xSort l = some (srt l) := if_pos h
theorem xCompact_ok {l : List Int} (h : l.length < 4611686018427387904) : xCompact l = some (Go.Lib.compact l) := if_pos h
theorem srt_mem {l : List Int} {x : Int} : x ∈ srt l ↔ x ∈ l := by unfold srt; exact List.mem_mergeSort

/-! ### Edges -/
def InR (n : Nat) (es : List TEdge) : Prop := ∀ e ∈ es, 0 ≤ e.From ∧ e.From < n ∧ 0 ≤ e.To ∧ e.To < n
def outs : List TEdge → Int → List Int
  | [], _ => []
  | e :: es, x => (if e.From = x then [e.To] else []) ++ outs es x
theorem outs_mem {x y : Int} : ∀ {es : List TEdge}, y ∈ outs es x ↔ (⟨x, y⟩ : TEdge) ∈ es
  | [] => by simp [outs]
  | e :: es => by
    rw [outs, List.mem_append, outs_mem (es := es), List.mem_cons]
    by_cases c : e.From = x
    · rw [if_pos c, List.mem_singleton]
      constructor
      · rintro (h | h)
        · left; rw [← c, h]
        · exact .inr h
      · rintro (h | h)
        · left; rw [← h]
        · exact .inr h
    · rw [if_neg c]
      constructor
      · rintro (h | h)
        · cases h
        · exact .inr h
      · rintro (h | h)
        · exact absurd (by rw [← h]) c
        · exact .inr h
theorem outs_len (x : Int) : ∀ es : List TEdge, (outs es x).length ≤ es.length
  | [] => by simp [outs]
  | e :: es => by
    have := outs_len x es
    rw [outs, List.length_append, List.length_cons]
    split <;> simp <;> omega
theorem gcheckL (n : Nat) (es : List TEdge) (hl : es.length ≤ 2000) (h : InR n es) : ∀ (r i : Nat), i + r = es.length → ∀ m, r < m → m9_graph_Check_L1 es (n : Int) m (i : Int) = some 0 := by
  intro r
  induction r with
  | zero =>
    intro i hi m hm
    obtain ⟨m, rfl⟩ := dec m hm
    rw [m9_graph_Check_L1, m9_graph_Check_L1B, if_neg (by omega), m9_graph_Check_K3]
  | succ r ih =>
    intro i hi m hm
    obtain ⟨m, rfl⟩ := dec m (by omega)
    have h1 : i < es.length := by omega
    obtain ⟨g1, g2, g3, g4⟩ := h es[i] (List.getElem_mem h1)
    rw [m9_graph_Check_L1, m9_graph_Check_L1B, if_pos (by omega), idx_ok h1, bind1_some, if_neg (by omega), if_neg (by omega), m9_graph_Check_K4, if_neg ff, if_neg (by omega), if_neg (by omega), isucc i (by omega), bind1_some, ih (i + 1) (by omega) m (by omega)]
theorem gcheck (n : Nat) (hn : n ≤ 60) (es : List TEdge) (hl : es.length ≤ 2000) (h : InR n es) : m9_graph_Check (n : Int) es = some 0 := by
  rw [m9_graph_Check, if_neg (by omega), if_neg (by omega), m9_graph_Check_K1, if_neg (by omega), m9_graph_Check_K2]
  exact gcheckL n es hl h es.length 0 (by omega) big (lt_big (by omega))

/-! ### next -/
theorem nextL2 (n : Nat) (es : List TEdge) (hl : es.length ≤ 2000) (h : InR n es) : ∀ (r i : Nat), i + r = es.length → ∀ f : Int → List Int, (∀ x, (f x).length ≤ i) → ∀ m, r < m →
    m20_graph_next_L2 es m (tab n f) (i : Int) = m20_graph_next_K1 (tab n fun x => f x ++ outs (es.drop i) x) := by
  intro r
  induction r with
  | zero =>
    intro i hi f hf m hm
    obtain ⟨m, rfl⟩ := dec m hm
    rw [m20_graph_next_L2, m20_graph_next_L2B, if_neg (by omega), List.drop_eq_nil_of_le (by omega)]
    congr 1
    apply tab_ext
    intro x _ _
    simp [outs]
  | succ r ih =>
    intro i hi f hf m hm
    obtain ⟨m, rfl⟩ := dec m (by omega)
    have h1 : i < es.length := by omega
    obtain ⟨g1, g2, g3, g4⟩ := h es[i] (List.getElem_mem h1)
    have hfl := hf es[i].From
    rw [m20_graph_next_L2, m20_graph_next_L2B, if_pos (by omega), idx_ok h1, bind1_some, tab_idx g1 g2, bind1_some, app_ok (by simp; omega), bind1_some, bind1_some, tab_upd _ g1 g2, bind1_some, isucc i (by omega), bind1_some, ih (i + 1) (by omega) _ (fun x => ?_) m (by omega)]
    · congr 1
      apply tab_ext
      intro x _ _
      rw [drop_cons h1, outs]
      by_cases c : x = es[i].From
      · rw [if_pos c, if_pos c.symm, c, List.append_assoc]
      · rw [if_neg c, if_neg (Ne.symm c), List.nil_append]
    · show (if x = es[i].From then f es[i].From ++ [es[i].To] else f x).length ≤ i + 1
      have := hf x
      split
      · simp; omega
      · omega
def suc (es : List TEdge) (x : Int) : List Int := Go.Lib.compact (srt (outs es x))
theorem suc_mem {es : List TEdge} {x y : Int} : y ∈ suc es x ↔ (⟨x, y⟩ : TEdge) ∈ es := by
  unfold suc
  rw [compact_mem, srt_mem, outs_mem]
theorem suc_len (es : List TEdge) (x : Int) : (suc es x).length ≤ es.length := by
  unfold suc
  have h1 := compact_len (srt (outs es x))
  have h2 := srt_length (outs es x)
  have h3 := outs_len x es
  omega
theorem nextL1 (n : Nat) (hn : n ≤ 60) (gl1 : List (List Int)) (hg : gl1.length = n) (f : Int → List Int) (hf : ∀ x, (f x).length ≤ 2000) : ∀ (r i : Nat), i + r = n → ∀ m, r < m →
    m20_graph_next_L1 gl1 m (tab n fun x => if x < i then Go.Lib.compact (srt (f x)) else f x) (i : Int) = some (tab n fun x => Go.Lib.compact (srt (f x))) := by
  intro r
  induction r with
  | zero =>
    intro i hi m hm
    obtain ⟨m, rfl⟩ := dec m hm
    rw [m20_graph_next_L1, m20_graph_next_L1B, if_neg (by omega), m20_graph_next_K2]
    congr 1
    apply tab_ext
    intro x _ _
    rw [if_pos (by omega)]
  | succ r ih =>
    intro i hi m hm
    obtain ⟨m, rfl⟩ := dec m (by omega)
    have h0 : (0 : Int) ≤ (i : Int) := by omega
    have h2 : (i : Int) < (n : Nat) := by omega
    have hl1 := hf i
    have hl2 := srt_length (f i)
    rw [m20_graph_next_L1, m20_graph_next_L1B, if_pos (by omega), tab_idx h0 h2, bind1_some, if_neg (by omega), xSort_ok (by omega), bind1_some, tab_upd _ h0 h2, bind1_some, tab_idx h0 h2, bind1_some, if_pos rfl, xCompact_ok (by omega), bind1_some, bind1_some, tab_upd _ h0 h2, bind1_some, isucc i (by omega), bind1_some, ← ih (i + 1) (by omega) m (by omega)]
    congr 1
    apply tab_ext
    intro x _ _
    by_cases c : x = i
    · rw [if_pos c, if_pos (by omega), c]
    · rw [if_neg c, if_neg c]
      by_cases c2 : x < i
      · rw [if_pos c2, if_pos (by omega)]
      · rw [if_neg c2, if_neg (by omega)]
theorem next_eq (n : Nat) (hn : n ≤ 60) (es : List TEdge) (hl : es.length ≤ 2000) (h : InR n es) : m20_graph_next (n : Int) es = some (tab n (suc es)) := by
  have h1 := nextL2 n es hl h es.length 0 (by omega) (fun _ => []) (by simp) big (lt_big (by omega))
  have h2 := nextL1 n hn (tab n (outs es)) (tab_length ..) (outs es) (fun x => Nat.le_trans (outs_len x es) hl) n 0 (by omega) big (lt_big (by omega))
  have e1 : (tab n fun x : Int => ([] : List Int) ++ outs (es.drop 0) x) = tab n (outs es) := tab_ext fun x _ _ => by simp
  have e2 : (tab n fun x : Int => if x < ((0 : Nat) : Int) then Go.Lib.compact (srt (outs es x)) else outs es x) = tab n (outs es) := tab_ext fun x h0 _ => by rw [if_neg (by omega)]
  rw [e1, show ((0 : Nat) : Int) = 0 from rfl] at h1
  rw [e2, show ((0 : Nat) : Int) = 0 from rfl] at h2
  rw [m20_graph_next, mk_ok _ (by omega), bind1_some, tab_repl, h1, m20_graph_next_K1, h2]
  rfl

/-! ### How many are ahead -/
def cnt (S : Int → List Int) (D : Int → Bool) (x : Int) : Nat → Int
  | 0 => 0
  | p + 1 => cnt S D x p + if D (p : Int) = true then 0 else ((S (p : Int)).count x : Int)
theorem cnt_le {S : Int → List Int} (hS : ∀ x, (S x).length ≤ 2000) (D : Int → Bool) (x : Int) : ∀ p : Nat, 0 ≤ cnt S D x p ∧ cnt S D x p ≤ p * 2000
  | 0 => by simp [cnt]
  | p + 1 => by
    have h1 := cnt_le hS D x p
    have h2 : (S (p : Int)).count x ≤ (S (p : Int)).length := List.count_le_length
    have h3 := hS (p : Int)
    rw [cnt]
    split <;> omega
theorem cnt_zero {S : Int → List Int} {D : Int → Bool} {x : Int} : ∀ n : Nat, cnt S D x n = 0 ↔ ∀ p : Int, 0 ≤ p → p < n → x ∈ S p → D p = true
  | 0 => by simp [cnt]; omega
  | n + 1 => by
    have h1 : 0 ≤ cnt S D x n := by
      have : ∀ p : Nat, 0 ≤ cnt S D x p := by
        intro p
        induction p with
        | zero => simp [cnt]
        | succ p ih => rw [cnt]; split <;> omega
      exact this n
    rw [cnt]
    constructor
    · intro h p h0 hp hx
      by_cases c : D (n : Int) = true
      · rw [if_pos c] at h
        by_cases e : p = n
        · rw [e]; exact c
        · exact (cnt_zero n).1 (by omega) p h0 (by omega) hx
      · rw [if_neg c] at h
        by_cases e : p = n
        · have : 0 < (S (n : Int)).count x := List.count_pos_iff.2 (by rw [← e]; exact hx)
          omega
        · exact (cnt_zero n).1 (by omega) p h0 (by omega) hx
    · intro h
      rw [(cnt_zero n).2 fun p h0 hp => h p h0 (by omega)]
      by_cases c : D (n : Int) = true
      · rw [if_pos c]; rfl
      · rw [if_neg c]
        have : x ∉ S (n : Int) := fun hx => c (h n (by omega) (by omega) hx)
        rw [List.count_eq_zero_of_not_mem this]
        rfl
theorem cnt_pick {S : Int → List Int} {D : Int → Bool} {x k : Int} (hk : D k = false) (h0 : 0 ≤ k) : ∀ n : Nat, cnt S (fun y => if y = k then true else D y) x n = cnt S D x n - if k < n then ((S k).count x : Int) else 0
  | 0 => by rw [if_neg (by omega)]; simp [cnt]
  | n + 1 => by
    rw [cnt, cnt, cnt_pick hk h0 n]
    by_cases e : (n : Int) = k
    · rw [if_pos e, if_pos rfl, if_neg (by omega), e, hk, if_neg ff, if_pos (by omega)]; omega
    · rw [if_neg e]
      by_cases c : k < n
      · rw [if_pos c, if_pos (show k < ((n + 1 : Nat) : Int) by omega)]; omega
      · rw [if_neg c, if_neg (show ¬k < ((n + 1 : Nat) : Int) by omega)]; omega
theorem addLoop (n : Nat) (s : List Int) (hs : ∀ x ∈ s, 0 ≤ x ∧ x < n) (hl : s.length ≤ 2000) (p : Int) (go : List Int → Int → Option (List Int × Int)) : ∀ (r j : Nat), j + r = s.length → ∀ g : Int → Int, (∀ x, -1000000 ≤ g x ∧ g x + r ≤ 1000000) → ∀ m, r < m →
    m6_graph_Order_L4 s p go m (tab n g) (j : Int) = m6_graph_Order_K7 p go (tab n fun x => g x + ((s.drop j).count x : Int)) := by
  intro r
  induction r with
  | zero =>
    intro j hj g hg m hm
    obtain ⟨m, rfl⟩ := dec m hm
    rw [m6_graph_Order_L4, m6_graph_Order_L4B, if_neg (by omega), List.drop_eq_nil_of_le (by omega)]
    congr 1
    apply tab_ext
    intro x _ _
    simp
  | succ r ih =>
    intro j hj g hg m hm
    obtain ⟨m, rfl⟩ := dec m (by omega)
    have h1 : j < s.length := by omega
    obtain ⟨g1, g2⟩ := hs s[j] (List.getElem_mem h1)
    have hb := hg s[j]
    rw [m6_graph_Order_L4, m6_graph_Order_L4B, if_pos (by omega), idx_ok h1, bind1_some, tab_idx g1 g2, bind1_some, i64_ok (by omega) (by omega), bind1_some, bind1_some, tab_upd _ g1 g2, bind1_some, isucc j (by omega), bind1_some, ih (j + 1) (by omega) _ (fun x => ?_) m (by omega)]
    · congr 1
      apply tab_ext
      intro x _ _
      rw [drop_cons h1, List.count_cons]
      by_cases c : x = s[j]
      · rw [if_pos c, ← c]; simp; omega
      · rw [if_neg c]; simp [Ne.symm c]
    · have := hg x
      show -1000000 ≤ (if x = s[j] then g s[j] + 1 else g x) ∧ (if x = s[j] then g s[j] + 1 else g x) + r ≤ 1000000
      split <;> omega
theorem subLoop (n : Nat) (s : List Int) (hs : ∀ x ∈ s, 0 ≤ x ∧ x < n) (hl : s.length ≤ 2000) (gl6 : List Int) (k : Int) (go : List Int → List Int → Option (List Int × Int)) : ∀ (r j : Nat), j + r = s.length → ∀ g : Int → Int, (∀ x, -1000000 + r ≤ g x ∧ g x ≤ 1000000) → ∀ m, r < m →
    m6_graph_Order_L2 s gl6 k go m (tab n g) (j : Int) = m6_graph_Order_K6 gl6 k go (tab n fun x => g x - ((s.drop j).count x : Int)) := by
  intro r
  induction r with
  | zero =>
    intro j hj g hg m hm
    obtain ⟨m, rfl⟩ := dec m hm
    rw [m6_graph_Order_L2, m6_graph_Order_L2B, if_neg (by omega), List.drop_eq_nil_of_le (by omega)]
    congr 1
    apply tab_ext
    intro x _ _
    simp
  | succ r ih =>
    intro j hj g hg m hm
    obtain ⟨m, rfl⟩ := dec m (by omega)
    have h1 : j < s.length := by omega
    obtain ⟨g1, g2⟩ := hs s[j] (List.getElem_mem h1)
    have hb := hg s[j]
    rw [m6_graph_Order_L2, m6_graph_Order_L2B, if_pos (by omega), idx_ok h1, bind1_some, tab_idx g1 g2, bind1_some, i64_ok (by omega) (by omega), bind1_some, bind1_some, tab_upd _ g1 g2, bind1_some, isucc j (by omega), bind1_some, ih (j + 1) (by omega) _ (fun x => ?_) m (by omega)]
    · congr 1
      apply tab_ext
      intro x _ _
      rw [drop_cons h1, List.count_cons]
      by_cases c : x = s[j]
      · rw [if_pos c, ← c]; simp; omega
      · rw [if_neg c]; simp [Ne.symm c]
    · have := hg x
      show -1000000 + r ≤ (if x = s[j] then g s[j] - 1 else g x) ∧ (if x = s[j] then g s[j] - 1 else g x) ≤ 1000000
      split <;> omega
theorem allLoop (n : Nat) (hn : n ≤ 60) (S : Int → List Int) (hS : ∀ x, (S x).length ≤ 2000) (hR : ∀ x, ∀ y ∈ S x, 0 ≤ y ∧ y < n) : ∀ (r p : Nat), p + r = n → ∀ m, r < m →
    m6_graph_Order_L3 (tab n S) (n : Int) m (tab n fun x => cnt S (fun _ => false) x p) (p : Int) = m6_graph_Order_K2 (n : Int) (tab n S) (tab n fun x => cnt S (fun _ => false) x n) := by
  intro r
  induction r with
  | zero =>
    intro p hp m hm
    obtain ⟨m, rfl⟩ := dec m hm
    rw [m6_graph_Order_L3, m6_graph_Order_L3B, if_neg (by rw [tab_length]; omega), show p = n by omega]
  | succ r ih =>
    intro p hp m hm
    obtain ⟨m, rfl⟩ := dec m (by omega)
    have h0 : (0 : Int) ≤ (p : Int) := by omega
    have h2 : (p : Int) < (n : Nat) := by omega
    have hl := hS (p : Int)
    have h3 := addLoop n (S p) (hR p) hl (p : Int) (m6_graph_Order_L3 (tab n S) (n : Int) m) (S p).length 0 (by omega) (fun x => cnt S (fun _ => false) x p) (fun x => by
      have := cnt_le hS (fun _ => false) x p
      omega) big (lt_big (by omega))
    rw [show ((0 : Nat) : Int) = 0 from rfl, List.drop_zero] at h3
    rw [m6_graph_Order_L3, m6_graph_Order_L3B, if_pos (by rw [tab_length]; omega), tab_idx h0 h2, bind1_some, h3, m6_graph_Order_K7, isucc p (by omega), bind1_some, ← ih (p + 1) (by omega) m (by omega)]
    rfl

/-! ### The first that is ready -/
def fstI (P : Int → Bool) : Nat → Nat → Int
  | _, 0 => -1
  | i, r + 1 => if P (i : Int) = true then (i : Int) else fstI P (i + 1) r
theorem fstI_ext {P R : Int → Bool} : ∀ (r i : Nat), (∀ k : Int, (i : Int) ≤ k → k < i + r → P k = R k) → fstI P i r = fstI R i r
  | 0, i, _ => rfl
  | r + 1, i, h => by
    rw [fstI, fstI, h i (by omega) (by omega), fstI_ext r (i + 1) fun k h1 h2 => h k (by omega) (by omega)]
theorem fstI_out {P : Int → Bool} : ∀ (r i : Nat), fstI P i r = -1 ∨ ((i : Int) ≤ fstI P i r ∧ fstI P i r < i + r ∧ P (fstI P i r) = true)
  | 0, i => .inl rfl
  | r + 1, i => by
    rw [fstI]
    by_cases c : P (i : Int) = true
    · rw [if_pos c]; exact .inr ⟨by omega, by omega, c⟩
    · rw [if_neg c]
      rcases fstI_out (P := P) r (i + 1) with h | ⟨h1, h2, h3⟩
      · exact .inl h
      · exact .inr ⟨by omega, by omega, h3⟩
theorem indexL (n : Nat) (hn : n ≤ 60) (g : Int → Int) : ∀ (r i : Nat), i + r = n → ∀ m, r < m → m21_slices_Index_int_L1 (tab n g) 0 m (i : Int) = some (fstI (fun x => decide (g x = 0)) i r) := by
  intro r
  induction r with
  | zero =>
    intro i hi m hm
    obtain ⟨m, rfl⟩ := dec m hm
    rw [m21_slices_Index_int_L1, m21_slices_Index_int_L1B, if_neg (by rw [tab_length]; omega), m21_slices_Index_int_K1]
    rfl
  | succ r ih =>
    intro i hi m hm
    obtain ⟨m, rfl⟩ := dec m (by omega)
    have h0 : (0 : Int) ≤ (i : Int) := by omega
    have h2 : (i : Int) < (n : Nat) := by omega
    rw [m21_slices_Index_int_L1, m21_slices_Index_int_L1B, if_pos (by rw [tab_length]; omega), tab_idx h0 h2, bind1_some, fstI]
    by_cases c : g i = 0
    · rw [if_pos (by first | exact c | exact c.symm), if_pos (by simp [c])]
    · rw [if_neg (by first | exact c | exact fun h => c h.symm), if_neg (by simp [c]), isucc i (by omega), bind1_some, ih (i + 1) (by omega) m (by omega)]
def allI (P : Int → Bool) : Nat → Nat → Bool
  | _, 0 => true
  | i, r + 1 => P (i : Int) && allI P (i + 1) r
theorem allI_iff {P : Int → Bool} : ∀ (r i : Nat), allI P i r = true ↔ ∀ k : Int, (i : Int) ≤ k → k < i + r → P k = true
  | 0, i => by simp [allI]; omega
  | r + 1, i => by
    rw [allI, Bool.and_eq_true, allI_iff r (i + 1)]
    constructor
    · rintro ⟨h1, h2⟩ k h3 h4
      by_cases c : k = i
      · rw [c]; exact h1
      · exact h2 k (by omega) (by omega)
    · intro h
      exact ⟨h i (by omega) (by omega), fun k h3 h4 => h k (by omega) (by omega)⟩
/-- A table of tables. -/
def tt {α : Type} (n : Nat) (C : Int → Int → α) : List (List α) := tab n fun i => tab n (C i)
theorem readyL4 (n : Nat) (hn : n ≤ 60) (D : Int → Bool) (C : Int → Int → Bool) (k : Nat) (hk : k < n) (gl5 : List Int) (go1 : List Bool → List Int → Option (List Int × Bool)) (go2 : Int → Option (List Int × Bool)) : ∀ (r i : Nat), i + r = n → ∀ (b : Bool) m, r < m →
    m10_quirref_Order_L4 (n : Int) (tab n D) (tt n C) (k : Int) gl5 go1 go2 m b (i : Int) = m10_quirref_Order_K7 (tab n D) gl5 go1 (k : Int) go2 (b && allI (fun j => D j || !C j k) i r) := by
  intro r
  induction r with
  | zero =>
    intro i hi b m hm
    obtain ⟨m, rfl⟩ := dec m hm
    rw [m10_quirref_Order_L4, m10_quirref_Order_L4B, if_neg (by omega), allI, Bool.and_true]
  | succ r ih =>
    intro i hi b m hm
    obtain ⟨m, rfl⟩ := dec m (by omega)
    have h0 : (0 : Int) ≤ (i : Int) := by omega
    have h2 : (i : Int) < (n : Nat) := by omega
    have h0k : (0 : Int) ≤ (k : Int) := by omega
    have h2k : (k : Int) < (n : Nat) := by omega
    rw [m10_quirref_Order_L4, m10_quirref_Order_L4B, if_pos (by omega), allI]
    cases b with
    | false => rw [if_neg ff, m10_quirref_Order_K8, if_neg ff, isucc i (by omega), bind1_some, ih (i + 1) (by omega) false m (by omega), Bool.false_and, Bool.false_and]
    | true =>
      rw [if_pos rfl, tab_idx h0 h2, bind1_some]
      by_cases c : D i = true
      · rw [if_pos c, m10_quirref_Order_K8, if_pos rfl, isucc i (by omega), bind1_some, ih (i + 1) (by omega) true m (by omega), c, Bool.true_or, Bool.true_and, Bool.true_and]
      · have c' : D i = false := by simpa using c
        rw [if_neg c, tt, tab_idx h0 h2, bind1_some, tab_idx h0k h2k, bind1_some, c', Bool.false_or]
        by_cases e : C i k = true
        · rw [if_pos e, m10_quirref_Order_K8, if_neg ff, isucc i (by omega), bind1_some, ← tt, ih (i + 1) (by omega) false m (by omega), e, Bool.not_true, Bool.false_and, Bool.and_false]
        · have e' : C i k = false := by simpa using e
          rw [if_neg e, m10_quirref_Order_K8, if_pos rfl, isucc i (by omega), bind1_some, ← tt, ih (i + 1) (by omega) true m (by omega), e', Bool.not_false, Bool.true_and, Bool.true_and]
theorem unreadyL3 (n : Nat) (hn : n ≤ 60) (k : Int) (go2 : Int → Option (List Int × Bool)) : ∀ (r i : Nat), i + r = n → ∀ m, r < m → m10_quirref_Order_L3 (n : Int) k go2 m (i : Int) = m10_quirref_Order_K6 k go2 := by
  intro r
  induction r with
  | zero =>
    intro i hi m hm
    obtain ⟨m, rfl⟩ := dec m hm
    rw [m10_quirref_Order_L3, m10_quirref_Order_L3B, if_neg (by omega)]
  | succ r ih =>
    intro i hi m hm
    obtain ⟨m, rfl⟩ := dec m (by omega)
    rw [m10_quirref_Order_L3, m10_quirref_Order_L3B, if_pos (by omega), isucc i (by omega), bind1_some, ih (i + 1) (by omega) m (by omega)]
def refReady (n : Nat) (D : Int → Bool) (C : Int → Int → Bool) (k : Int) : Bool := !D k && allI (fun j => D j || !C j k) 0 n
theorem searchL2 (n : Nat) (hn : n ≤ 60) (D : Int → Bool) (C : Int → Int → Bool) (gl5 : List Int) (go1 : List Bool → List Int → Option (List Int × Bool)) : ∀ (r k : Nat), k + r = n → ∀ m, r < m →
    m10_quirref_Order_L2 (n : Int) (tab n D) (tt n C) gl5 go1 m (k : Int) = m10_quirref_Order_K3 (tab n D) gl5 go1 (fstI (refReady n D C) k r) := by
  intro r
  induction r with
  | zero =>
    intro k hk m hm
    obtain ⟨m, rfl⟩ := dec m hm
    rw [m10_quirref_Order_L2, m10_quirref_Order_L2B, if_neg (by omega), fstI]
  | succ r ih =>
    intro k hk m hm
    obtain ⟨m, rfl⟩ := dec m (by omega)
    have h0k : (0 : Int) ≤ (k : Int) := by omega
    have h2k : (k : Int) < (n : Nat) := by omega
    rw [m10_quirref_Order_L2, m10_quirref_Order_L2B, if_pos (by omega), tab_idx h0k h2k, bind1_some, fstI]
    by_cases c : D k = true
    · rw [if_pos c, m10_quirref_Order_K5, if_neg ff, show (0 : Int) = ((0 : Nat) : Int) from rfl, unreadyL3 n hn (k : Int) _ n 0 (by omega) big (lt_big (by omega)), m10_quirref_Order_K6, m10_quirref_Order_K4, isucc k (by omega), bind1_some, ih (k + 1) (by omega) m (by omega), if_neg (by simp [refReady, c])]
    · have c' : D k = false := by simpa using c
      have hrd : refReady n D C k = allI (fun j => D j || !C j k) 0 n := by simp [refReady, c']
      rw [if_neg c, m10_quirref_Order_K5, if_pos rfl, show (0 : Int) = ((0 : Nat) : Int) from rfl, readyL4 n hn D C k (by omega) gl5 go1 _ n 0 (by omega) true big (lt_big (by omega)), m10_quirref_Order_K7, Bool.true_and, ← hrd]
      by_cases e : refReady n D C k = true
      · rw [if_pos e, if_pos e]
      · rw [if_neg e, if_neg e, m10_quirref_Order_K4, isucc k (by omega), bind1_some, ih (k + 1) (by omega) m (by omega)]
end Go.Proofs.Ytjhcdmcikodgkaa
