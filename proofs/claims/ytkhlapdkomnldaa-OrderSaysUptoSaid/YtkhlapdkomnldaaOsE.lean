/-
  What hangs on what in a story: the document's answer, and that both are one.
  Conditions: the reads of each tale are at most 1048576.
-/
import Derived.Test.YtkhlapdkomnldaaOsD
namespace Go.Proofs.Ytkhlapdkomnldaa
open Go.S Go.Sort
set_option linter.unusedVariables false
set_option linter.unusedSimpArgs false

/-! ### One behind another -/
def adj (a b : Int) : List Int → Bool
  | x :: y :: r => (decide (x = a) && decide (y = b)) || adj a b (y :: r)
  | _ => false
theorem prs_mem {x : TDep} : ∀ l : List Int, x ∈ prs l ↔ x.Kind = 1 ∧ x.From ≠ x.To ∧ 0 ≤ x.From ∧ adj x.From x.To l = true
  | [] => by simp [prs, adj]
  | [a] => by simp [prs, adj]
  | a :: b :: r => by
    rw [prs, List.mem_append, prs_mem (b :: r), adj, Bool.or_eq_true, Bool.and_eq_true, decide_eq_true_eq, decide_eq_true_eq]
    unfold addD
    constructor
    · rintro (h | ⟨h1, h2, h3, h4⟩)
      · split at h
        · rename_i hc
          rw [List.mem_singleton] at h
          subst h
          exact ⟨rfl, hc.1, hc.2, .inl ⟨rfl, rfl⟩⟩
        · cases h
      · exact ⟨h1, h2, h3, .inr h4⟩
    · rintro ⟨h1, h2, h3, h4 | h4⟩
      · left
        rw [if_pos ⟨by rw [h4.1, h4.2]; exact h2, by rw [h4.1]; exact h3⟩, List.mem_singleton]
        cases x
        simp only at *
        rw [← h4.1, ← h4.2, ← h1]
      · exact .inr ⟨h1, h2, h3, h4⟩
theorem adj_mem {a b : Int} : ∀ l : List Int, adj a b l = true → a ∈ l ∧ b ∈ l
  | [], h => by simp [adj] at h
  | [x], h => by simp [adj] at h
  | x :: y :: r, h => by
    rw [adj, Bool.or_eq_true, Bool.and_eq_true, decide_eq_true_eq, decide_eq_true_eq] at h
    rcases h with ⟨rfl, rfl⟩ | h
    · simp
    · obtain ⟨h1, h2⟩ := adj_mem (y :: r) h
      exact ⟨List.mem_cons_of_mem _ h1, List.mem_cons_of_mem _ h2⟩
theorem adjL4 (l : List Int) (hl : l.length ≤ 1048576) (a b : Int) (gx5 : Int) (go3 : Int → Option Bool) : ∀ (r i : Nat), i + r = l.length → 1 ≤ i → ∀ n, r < n →
    m70_quirref_hangs_L4 l a b gx5 go3 n (i : Int) = if adj a b (l.drop (i - 1)) = true then some true else m70_quirref_hangs_K7 gx5 go3 := by
  intro r
  induction r with
  | zero =>
    intro i hi hi1 n hn
    obtain ⟨n, rfl⟩ := dec n hn
    have : adj a b (l.drop (i - 1)) = false := by
      have h1 : i - 1 < l.length ∨ l.length ≤ i - 1 := by omega
      rcases h1 with h1 | h1
      · rw [drop_cons h1, List.drop_eq_nil_of_le (by omega)]; rfl
      · rw [List.drop_eq_nil_of_le h1]; rfl
    rw [m70_quirref_hangs_L4, m70_quirref_hangs_L4B, if_neg (by omega), this, if_neg ff]
  | succ r ih =>
    intro i hi hi1 n hn
    obtain ⟨n, rfl⟩ := dec n (by omega)
    have hp : i - 1 < l.length := by omega
    have hil : i < l.length := by omega
    have hd : l.drop (i - 1) = l[i - 1] :: l[i] :: l.drop (i + 1) := by
      rw [drop_cons hp]
      congr 1
      simp only [show i - 1 + 1 = i by omega]
      exact drop_cons hil
    have hd2 : l.drop i = l[i] :: l.drop (i + 1) := drop_cons hil
    have hno : (decide (l[i - 1] = a) && decide (l[i] = b)) = false → m70_quirref_hangs_L4 l a b gx5 go3 n ((i + 1 : Nat) : Int) = if ((decide (l[i - 1] = a) && decide (l[i] = b)) || adj a b (l[i] :: l.drop (i + 1))) = true then some true else m70_quirref_hangs_K7 gx5 go3 := by
      intro h
      rw [ih (i + 1) (by omega) (by omega) n (by omega), h, Bool.false_or, show i + 1 - 1 = i by omega, hd2]
    rw [m70_quirref_hangs_L4, m70_quirref_hangs_L4B, if_pos (by omega), if_pos (by omega), ipred i (by omega) (by omega), bind1_some, idx_ok hp, bind1_some, hd, adj]
    by_cases c1 : l[i - 1] = a
    · rw [if_pos c1, m70_quirref_hangs_K8, if_pos rfl, idx_ok hil, bind1_some]
      by_cases c2 : l[i] = b
      · rw [if_pos c2, if_pos (by simp [c1, c2])]
      · rw [if_neg c2, isucc i (by omega), bind1_some]
        exact hno (by simp [c2])
    · rw [if_neg c1, m70_quirref_hangs_K8, if_neg ff, isucc i (by omega), bind1_some]
      exact hno (by simp [c1])
theorem hangs1 (s : TStory) (hlim : Lim s) (hv : s.Versions.length ≤ 20) (a b : Int) : ∀ (r i : Nat), i + r = s.Versions.length → ∀ n, r < n →
    m70_quirref_hangs_L3 s a b n (i : Int) = some ((s.Versions.drop i).any (adj a b)) := by
  intro r
  induction r with
  | zero =>
    intro i hi n hn
    obtain ⟨n, rfl⟩ := dec n hn
    rw [m70_quirref_hangs_L3, m70_quirref_hangs_L3B, if_neg (by omega), m70_quirref_hangs_K6, List.drop_eq_nil_of_le (by omega)]
    rfl
  | succ r ih =>
    intro i hi n hn
    obtain ⟨n, rfl⟩ := dec n (by omega)
    have hil : i < s.Versions.length := by omega
    have hll := hlim.vs _ (List.getElem_mem hil)
    have key : m70_quirref_hangs_L4 s.Versions[i] a b (i : Int) (m70_quirref_hangs_L3 s a b n) big 0 = if adj a b s.Versions[i] = true then some true else m70_quirref_hangs_K7 (i : Int) (m70_quirref_hangs_L3 s a b n) := by
      generalize s.Versions[i] = l at hll
      cases l with
      | nil =>
        obtain ⟨q, hq⟩ := dec big (lt_big (by omega))
        rw [hq, m70_quirref_hangs_L4, m70_quirref_hangs_L4B, if_neg (show ¬((0 : Int) < (([] : List Int).length : Int)) by decide), adj, if_neg ff]
        all_goals (intros; simp_all)
      | cons x l =>
        have h2 := adjL4 (x :: l) hll a b (i : Int) (m70_quirref_hangs_L3 s a b n) l.length 1 (by simp; omega) (Nat.le_refl _)
        obtain ⟨q, hq⟩ := dec big (lt_big (by omega))
        have h3 := h2 q (by
          have : l.length + 1 < big := lt_big (by simp at hll; omega)
          omega)
        rw [show ((1 : Nat) : Int) = 1 from rfl] at h3
        rw [hq, m70_quirref_hangs_L4, m70_quirref_hangs_L4B, if_pos (show (0 : Int) < ((x :: l).length : Int) by simp), if_neg (by decide), m70_quirref_hangs_K8, if_neg ff, show i64 ((0 : Int) + 1) = some 1 from rfl, bind1_some, h3]
        rfl
    rw [m70_quirref_hangs_L3, m70_quirref_hangs_L3B, if_pos (by omega), idx_ok hil, bind1_some, key, drop_cons hil, List.any_cons]
    by_cases c : adj a b s.Versions[i] = true
    · rw [if_pos c, c, Bool.true_or]
    · have c' : adj a b s.Versions[i] = false := by simpa using c
      rw [if_neg c, c', Bool.false_or, m70_quirref_hangs_K7, isucc i (by omega), bind1_some, ih (i + 1) (by omega) n (by omega)]

/-! ### The next writer -/
def nv (l : List Int) (fr : Int) : Option Int := idx l (fi fr 0 l + 1)
def nwO (fr : Int) : List Int → Option Int
  | x :: y :: r => if x = fr then some y else nwO fr (y :: r)
  | _ => none
theorem fi_shift (x : Int) : ∀ (l : List Int) (i : Int), x ∈ l → fi x (i + 1) l = fi x i l + 1
  | [], i, h => by cases h
  | y :: l, i, h => by
    rw [fi, fi]
    by_cases c : x = y
    · rw [if_pos c, if_pos c]
    · rw [if_neg c, if_neg c]
      exact fi_shift x l (i + 1) (by simpa [c] using h)
theorem nv_nwO {fr : Int} : ∀ l : List Int, fr ∈ l → nv l fr = nwO fr l
  | [], h => by cases h
  | [x], h => by
    have : fr = x := by simpa using h
    unfold nv
    rw [fi, if_pos this]
    rfl
  | x :: y :: r, h => by
    unfold nv
    rw [fi, nwO]
    by_cases c : fr = x
    · rw [if_pos c, if_pos c.symm]; rfl
    · have hm : fr ∈ y :: r := by simpa [c] using h
      rw [if_neg c, if_neg (Ne.symm c), ← nv_nwO (y :: r) hm, fi_shift fr (y :: r) 0 hm]
      have h0 := (fi_has fr (y :: r)).2 hm
      obtain ⟨q, hq⟩ := Int.eq_ofNat_of_zero_le h0
      unfold nv
      rw [hq, show ((q : Int) + 1 + 1) = ((q + 1 + 1 : Nat) : Int) by omega, show ((q : Int) + 1) = ((q + 1 : Nat) : Int) by omega, idx_nat, idx_nat]
      rfl
theorem nwL1 (l : List Int) (hl : l.length ≤ 1048576) (fr : Int) (hfr : fr ≠ -1) : ∀ (r i : Nat), i + r = l.length → 1 ≤ i → ∀ n, r < n → m118_quirref_nextWriter_L1 l fr n (i : Int) = some ((nwO fr (l.drop (i - 1))).getD (-1)) := by
  intro r
  induction r with
  | zero =>
    intro i hi hi1 n hn
    obtain ⟨n, rfl⟩ := dec n hn
    have : nwO fr (l.drop (i - 1)) = none := by
      have h1 : i - 1 < l.length ∨ l.length ≤ i - 1 := by omega
      rcases h1 with h1 | h1
      · rw [drop_cons h1, List.drop_eq_nil_of_le (by omega)]; rfl
      · rw [List.drop_eq_nil_of_le h1]; rfl
    rw [m118_quirref_nextWriter_L1, m118_quirref_nextWriter_L1B, if_neg (by omega), m118_quirref_nextWriter_K1, this]
    rfl
  | succ r ih =>
    intro i hi hi1 n hn
    obtain ⟨n, rfl⟩ := dec n (by omega)
    have hp : i - 1 < l.length := by omega
    have hil : i < l.length := by omega
    have hd : l.drop (i - 1) = l[i - 1] :: l[i] :: l.drop (i + 1) := by
      rw [drop_cons hp]
      congr 1
      simp only [show i - 1 + 1 = i by omega]
      exact drop_cons hil
    have hd2 : l.drop i = l[i] :: l.drop (i + 1) := drop_cons hil
    rw [m118_quirref_nextWriter_L1, m118_quirref_nextWriter_L1B, if_pos (by omega), idx_ok hil, bind1_some, if_neg hfr, m118_quirref_nextWriter_K2, if_neg ff, if_pos (by omega), ipred i (by omega) (by omega), bind1_some, idx_ok hp, bind1_some, hd, nwO]
    by_cases c : l[i - 1] = fr
    · rw [if_pos c, if_pos c, m118_quirref_nextWriter_K3, if_pos rfl]
      rfl
    · rw [if_neg c, if_neg c, m118_quirref_nextWriter_K3, if_neg ff, isucc i (by omega), bind1_some, ih (i + 1) (by omega) (by omega) n (by omega), show i + 1 - 1 = i by omega, hd2]
theorem next_w (l : List Int) (hl : l.length ≤ 1048576) (fr : Int) (h : (fr = -1 ∧ fr ∉ l) ∨ (fr ≠ -1 ∧ fr ∈ l)) : m118_quirref_nextWriter l fr = some ((nv l fr).getD (-1)) := by
  rw [m118_quirref_nextWriter]
  rcases h with ⟨h1, h2⟩ | ⟨h1, h2⟩
  · have hfi : fi fr 0 l = -1 := by
      rcases fi_spec fr l 0 with ⟨q, _⟩ | ⟨j, _, q, _⟩
      · exact q
      · exact absurd (List.mem_of_getElem? q) h2
    obtain ⟨q, hq⟩ := dec big (lt_big (by omega))
    unfold nv
    rw [hfi, hq, m118_quirref_nextWriter_L1, m118_quirref_nextWriter_L1B]
    cases l with
    | nil => rw [if_neg (by decide), m118_quirref_nextWriter_K1]; rfl
    | cons x l => rw [if_pos (show (0 : Int) < ((x :: l).length : Int) by simp), show idx (x :: l) 0 = some x from rfl, bind1_some, if_pos h1, if_pos rfl, m118_quirref_nextWriter_K2, if_pos rfl]; rfl
  · rw [nv_nwO l h2]
    cases l with
    | nil => cases h2
    | cons x l =>
      obtain ⟨q, hq⟩ := dec big (lt_big (by omega))
      have h3 := nwL1 (x :: l) hl fr h1 l.length 1 (by simp; omega) (Nat.le_refl _) q (by
        have : l.length + 1 < big := lt_big (by simp at hl; omega)
        omega)
      rw [show ((1 : Nat) : Int) = 1 from rfl] at h3
      rw [hq, m118_quirref_nextWriter_L1, m118_quirref_nextWriter_L1B, if_pos (show (0 : Int) < ((x :: l).length : Int) by simp), show idx (x :: l) 0 = some x from rfl, bind1_some, if_neg h1, m118_quirref_nextWriter_K2, if_neg ff, if_neg (by decide), m118_quirref_nextWriter_K3, if_neg ff, show i64 ((0 : Int) + 1) = some 1 from rfl, bind1_some, h3]
      rfl

/-! ### Reads -/
def pB (s : TStory) (a b k : Int) (t : TTale) (g : TGot) : Bool := (decide (k = 2) && decide (t.Tx = b) && decide (g.From = a)) || (decide (k = 3) && decide (t.Tx = a) && match idx s.Versions g.Item with
  | some l => decide ((nv l g.From).getD (-1) = b)
  | none => false)
theorem ver_pos {s : TStory} (hg : GoodS s) {l : List Int} (hl : l ∈ s.Versions) {w : Int} (hw : w ∈ l) : 0 ≤ w ∧ w < 12 := by
  have h := (hg.ver l hl).tale w hw
  unfold isT at h
  rw [List.any_eq_true] at h
  obtain ⟨t, ht, he⟩ := h
  have := hg.tx t ht
  rw [decide_eq_true_eq] at he
  omega
theorem got_next {s : TStory} (hg : GoodS s) (hlim : Lim s) {t : TTale} {g : TGot} (hok : GotOk s t g) : ∃ l, idx s.Versions g.Item = some l ∧ l ∈ s.Versions ∧ m118_quirref_nextWriter l g.From = some ((nv l g.From).getD (-1)) := by
  obtain ⟨q, hq⟩ := Int.eq_ofNat_of_zero_le hok.i0
  have hql : q < s.Versions.length := by have := hok.i1; omega
  have hi : idx s.Versions g.Item = some s.Versions[q] := by rw [hq, idx_ok hql]
  have hm := List.getElem_mem hql
  refine ⟨_, hi, hm, next_w _ (hlim.vs _ hm) _ ?_⟩
  rcases hok.src with h | h
  · exact .inl ⟨h, fun hx => by have := ver_pos hg hm hx; omega⟩
  · have hx := h _ hi
    exact .inr ⟨by have := ver_pos hg hm hx; omega, hx⟩
theorem readL2 (s : TStory) (hg : GoodS s) (hlim : Lim s) (t : TTale) (ht : t ∈ s.Tales) (a b k : Int) (gx1 : Int) (go1 : Int → Option Bool) : ∀ (r j : Nat), j + r = t.Reads.length → ∀ n, r < n →
    m70_quirref_hangs_L2 t k b a s gx1 go1 n (j : Int) = if (t.Reads.drop j).any (pB s a b k t) = true then some true else m70_quirref_hangs_K3 gx1 go1 := by
  have hrl := hlim.rd t ht
  intro r
  induction r with
  | zero =>
    intro j hj n hn
    obtain ⟨n, rfl⟩ := dec n hn
    rw [m70_quirref_hangs_L2, m70_quirref_hangs_L2B, if_neg (by omega), List.drop_eq_nil_of_le (by omega), List.any_nil, if_neg ff]
  | succ r ih =>
    intro j hj n hn
    obtain ⟨n, rfl⟩ := dec n (by omega)
    have hjl : j < t.Reads.length := by omega
    obtain ⟨l, v1, v2, v3⟩ := got_next hg hlim (hg.got t ht _ (List.getElem_mem hjl))
    rw [m70_quirref_hangs_L2, m70_quirref_hangs_L2B, if_pos (by omega), idx_ok hjl, bind1_some, drop_cons hjl, List.any_cons]
    generalize t.Reads[j] = g at v1 v2 v3
    have hp : pB s a b k t g = ((decide (k = 2) && decide (t.Tx = b) && decide (g.From = a)) || (decide (k = 3) && decide (t.Tx = a) && decide ((nv l g.From).getD (-1) = b))) := by
      unfold pB
      rw [v1]
    have hno : pB s a b k t g = false → m70_quirref_hangs_L2 t k b a s gx1 go1 n ((j + 1 : Nat) : Int) = if (pB s a b k t g || (t.Reads.drop (j + 1)).any (pB s a b k t)) = true then some true else m70_quirref_hangs_K3 gx1 go1 := by
      intro h
      rw [ih (j + 1) (by omega) n (by omega), h, Bool.false_or]
    have hyes : pB s a b k t g = true → some true = if (pB s a b k t g || (t.Reads.drop (j + 1)).any (pB s a b k t)) = true then some true else m70_quirref_hangs_K3 gx1 go1 := by
      intro h
      rw [h, Bool.true_or, if_pos rfl]
    have hK5 : ∀ q : Bool, pB s a b k t g = (q && decide ((nv l g.From).getD (-1) = b)) → m70_quirref_hangs_K5 s g b (j : Int) (m70_quirref_hangs_L2 t k b a s gx1 go1 n) q = if (pB s a b k t g || (t.Reads.drop (j + 1)).any (pB s a b k t)) = true then some true else m70_quirref_hangs_K3 gx1 go1 := by
      intro q h
      rw [m70_quirref_hangs_K5]
      cases q with
      | true =>
        rw [if_pos rfl, v1, bind1_some, v3, bind1_some]
        by_cases c : (nv l g.From).getD (-1) = b
        · rw [if_pos c]; exact hyes (by rw [h]; simp [c])
        · rw [if_neg c, isucc j (by omega), bind1_some]; exact hno (by rw [h]; simp [c])
      | false =>
        rw [if_neg ff, isucc j (by omega), bind1_some]; exact hno (by rw [h]; rfl)
    by_cases c1 : k = 2
    · have c13 : ¬k = 3 := by omega
      rw [if_pos c1]
      by_cases c2 : t.Tx = b
      · rw [if_pos c2, m70_quirref_hangs_K4, if_pos rfl]
        by_cases c3 : g.From = a
        · rw [if_pos c3]; exact hyes (by rw [hp]; simp [c1, c2, c3])
        · rw [if_neg c3, if_neg c13, isucc j (by omega), bind1_some]; exact hno (by rw [hp]; simp [c3, c13])
      · rw [if_neg c2, m70_quirref_hangs_K4, if_neg ff, if_neg c13]
        exact hK5 false (by rw [hp]; simp [c2, c13])
    · rw [if_neg c1, m70_quirref_hangs_K4, if_neg ff]
      by_cases c3 : k = 3
      · rw [if_pos c3]
        by_cases c4 : t.Tx = a
        · rw [if_pos c4]; exact hK5 true (by rw [hp]; simp [c3, c4])
        · rw [if_neg c4]; exact hK5 false (by rw [hp]; simp [c1, c4])
      · rw [if_neg c3]; exact hK5 false (by rw [hp]; simp [c1, c3])
theorem hangs2 (s : TStory) (hg : GoodS s) (hlim : Lim s) (a b k : Int) : ∀ (r i : Nat), i + r = s.Tales.length → ∀ n, r < n →
    m70_quirref_hangs_L1 s k b a n (i : Int) = some ((s.Tales.drop i).any fun t => t.Reads.any (pB s a b k t)) := by
  have hnt := hg.nt
  intro r
  induction r with
  | zero =>
    intro i hi n hn
    obtain ⟨n, rfl⟩ := dec n hn
    rw [m70_quirref_hangs_L1, m70_quirref_hangs_L1B, if_neg (by omega), m70_quirref_hangs_K2, List.drop_eq_nil_of_le (by omega)]
    rfl
  | succ r ih =>
    intro i hi n hn
    obtain ⟨n, rfl⟩ := dec n (by omega)
    have hil : i < s.Tales.length := by omega
    have hmem := List.getElem_mem hil
    have hrl := hlim.rd _ hmem
    have h2 := readL2 s hg hlim s.Tales[i] hmem a b k (i : Int) (m70_quirref_hangs_L1 s k b a n) s.Tales[i].Reads.length 0 (by omega) big (lt_big (by omega))
    rw [show ((0 : Nat) : Int) = 0 from rfl, List.drop_zero] at h2
    rw [m70_quirref_hangs_L1, m70_quirref_hangs_L1B, if_pos (by omega), idx_ok hil, bind1_some, h2, drop_cons hil, List.any_cons]
    by_cases c : s.Tales[i].Reads.any (pB s a b k s.Tales[i]) = true
    · rw [if_pos c, c, Bool.true_or]
    · have c' : s.Tales[i].Reads.any (pB s a b k s.Tales[i]) = false := by simpa using c
      rw [if_neg c, c', Bool.false_or, m70_quirref_hangs_K3, isucc i (by omega), bind1_some, ih (i + 1) (by omega) n (by omega)]
def hg (s : TStory) (a b k : Int) : Bool := if k = 1 then s.Versions.any (adj a b) else s.Tales.any fun t => t.Reads.any (pB s a b k t)
theorem hangs_eq (s : TStory) (hgs : GoodS s) (hlim : Lim s) (a b k : Int) : m70_quirref_hangs s a b k = some (hg s a b k) := by
  have hnt := hgs.nt
  have hnv := hgs.nv
  unfold hg
  rw [m70_quirref_hangs]
  by_cases c : k = 1
  · have h := hangs1 s hlim hnv a b s.Versions.length 0 (by omega) big (lt_big (by omega))
    rw [show ((0 : Nat) : Int) = 0 from rfl, List.drop_zero] at h
    rw [if_pos c, if_pos c, h]
  · have h := hangs2 s hgs hlim a b k s.Tales.length 0 (by omega) big (lt_big (by omega))
    rw [show ((0 : Nat) : Int) = 0 from rfl, List.drop_zero] at h
    rw [if_neg c, if_neg c, m70_quirref_hangs_K1, h]

/-! ### The document's list -/
def kl (T : Int → Int → Int → Bool) (a b : Int) : Nat → Nat → List TDep
  | _, 0 => []
  | k, r + 1 => (if a ≠ b ∧ T a b (k : Int) = true then [⟨a, b, (k : Int)⟩] else []) ++ kl T a b (k + 1) r
def bl (T : Int → Int → Int → Bool) (a : Int) : Nat → Nat → List TDep
  | _, 0 => []
  | b, r + 1 => kl T a (b : Int) 1 3 ++ bl T a (b + 1) r
def al (T : Int → Int → Int → Bool) : Nat → Nat → List TDep
  | _, 0 => []
  | a, r + 1 => bl T (a : Int) 0 12 ++ al T (a + 1) r
theorem kl_len (T : Int → Int → Int → Bool) (a b : Int) : ∀ r k : Nat, (kl T a b k r).length ≤ r
  | 0, k => by simp [kl]
  | r + 1, k => by
    have := kl_len T a b r (k + 1)
    rw [kl, List.length_append]
    split <;> simp <;> omega
theorem bl_len (T : Int → Int → Int → Bool) (a : Int) : ∀ r b : Nat, (bl T a b r).length ≤ 3 * r
  | 0, b => by simp [bl]
  | r + 1, b => by
    have h1 := bl_len T a r (b + 1)
    have h2 := kl_len T a (b : Int) 3 1
    rw [bl, List.length_append]
    omega
theorem al_len (T : Int → Int → Int → Bool) : ∀ r a : Nat, (al T a r).length ≤ 36 * r
  | 0, a => by simp [al]
  | r + 1, a => by
    have h1 := al_len T r (a + 1)
    have h2 := bl_len T (a : Int) 12 0
    rw [al, List.length_append]
    omega
theorem kl_mem {T : Int → Int → Int → Bool} {a b : Int} {x : TDep} : ∀ {r k : Nat}, x ∈ kl T a b k r ↔ x.From = a ∧ x.To = b ∧ (k : Int) ≤ x.Kind ∧ x.Kind < k + r ∧ a ≠ b ∧ T a b x.Kind = true
  | 0, k => by
    rw [kl]
    constructor
    · intro h; cases h
    · rintro ⟨_, _, h1, h2, _⟩; omega
  | r + 1, k => by
    rw [kl, List.mem_append, kl_mem (r := r) (k := k + 1)]
    constructor
    · rintro (h | ⟨h1, h2, h3, h4, h5, h6⟩)
      · split at h
        · rename_i hc
          rw [List.mem_singleton] at h
          subst h
          exact ⟨rfl, rfl, by simp, by simp; omega, hc.1, hc.2⟩
        · cases h
      · exact ⟨h1, h2, by omega, by omega, h5, h6⟩
    · rintro ⟨h1, h2, h3, h4, h5, h6⟩
      by_cases e : x.Kind = k
      · left
        rw [if_pos ⟨h5, by rw [← e]; exact h6⟩, List.mem_singleton]
        cases x
        simp only at *
        rw [h1, h2, e]
      · exact .inr ⟨h1, h2, by omega, by omega, h5, h6⟩
theorem bl_mem {T : Int → Int → Int → Bool} {a : Int} {x : TDep} : ∀ {r b : Nat}, x ∈ bl T a b r ↔ x.From = a ∧ (b : Int) ≤ x.To ∧ x.To < b + r ∧ 1 ≤ x.Kind ∧ x.Kind < 4 ∧ a ≠ x.To ∧ T a x.To x.Kind = true
  | 0, b => by
    rw [bl]
    constructor
    · intro h; cases h
    · rintro ⟨_, h1, h2, _⟩; omega
  | r + 1, b => by
    rw [bl, List.mem_append, kl_mem, bl_mem (r := r) (b := b + 1)]
    constructor
    · rintro (⟨h1, h2, h3, h4, h5, h6⟩ | ⟨h1, h2, h3, h4⟩)
      · exact ⟨h1, by omega, by omega, by omega, by omega, by rw [h2]; exact h5, by rw [h2]; exact h6⟩
      · exact ⟨h1, by omega, by omega, h4⟩
    · rintro ⟨h1, h2, h3, h4, h5, h6, h7⟩
      by_cases e : x.To = b
      · rw [e] at h6 h7
        exact .inl ⟨h1, e, by omega, by omega, h6, h7⟩
      · exact .inr ⟨h1, by omega, by omega, h4, h5, h6, h7⟩
theorem al_mem {T : Int → Int → Int → Bool} {x : TDep} : ∀ {r a : Nat}, x ∈ al T a r ↔ (a : Int) ≤ x.From ∧ x.From < a + r ∧ 0 ≤ x.To ∧ x.To < 12 ∧ 1 ≤ x.Kind ∧ x.Kind < 4 ∧ x.From ≠ x.To ∧ T x.From x.To x.Kind = true
  | 0, a => by
    rw [al]
    constructor
    · intro h; cases h
    · rintro ⟨h1, h2, _⟩; omega
  | r + 1, a => by
    rw [al, List.mem_append, bl_mem, al_mem (r := r) (a := a + 1)]
    constructor
    · rintro (⟨h1, h2, h3, h4, h5, h6, h7⟩ | ⟨h1, h2, h3⟩)
      · exact ⟨by omega, by omega, by omega, by omega, h4, h5, by rw [h1]; exact h6, by rw [h1]; exact h7⟩
      · exact ⟨by omega, by omega, h3⟩
    · rintro ⟨h1, h2, h3, h4, h5, h6, h7, h8⟩
      by_cases e : x.From = a
      · rw [e] at h7 h8
        exact .inl ⟨e, by omega, by omega, h5, h6, h7, h8⟩
      · exact .inr ⟨by omega, by omega, h3, h4, h5, h6, h7, h8⟩
theorem kl_sorted (T : Int → Int → Int → Bool) (a b : Int) : ∀ r k : Nat, (kl T a b k r).Pairwise ahd
  | 0, k => by rw [kl]; exact List.Pairwise.nil
  | r + 1, k => by
    rw [kl]
    refine List.pairwise_append.2 ⟨by split <;> simp, kl_sorted T a b r (k + 1), fun x hx y hy => ?_⟩
    obtain ⟨h1, h2, h3, _⟩ := kl_mem.1 hy
    split at hx
    · rw [List.mem_singleton] at hx
      subst hx
      unfold ahd
      simp only
      omega
    · cases hx
theorem bl_sorted (T : Int → Int → Int → Bool) (a : Int) : ∀ r b : Nat, (bl T a b r).Pairwise ahd
  | 0, b => by rw [bl]; exact List.Pairwise.nil
  | r + 1, b => by
    rw [bl]
    refine List.pairwise_append.2 ⟨kl_sorted .., bl_sorted T a r (b + 1), fun x hx y hy => ?_⟩
    obtain ⟨h1, h2, _⟩ := kl_mem.1 hx
    obtain ⟨g1, g2, _⟩ := bl_mem.1 hy
    unfold ahd
    omega
theorem al_sorted (T : Int → Int → Int → Bool) : ∀ r a : Nat, (al T a r).Pairwise ahd
  | 0, a => by rw [al]; exact List.Pairwise.nil
  | r + 1, a => by
    rw [al]
    refine List.pairwise_append.2 ⟨bl_sorted .., al_sorted T r (a + 1), fun x hx y hy => ?_⟩
    obtain ⟨h1, _⟩ := bl_mem.1 hx
    obtain ⟨g1, _⟩ := al_mem.1 hy
    unfold ahd
    omega
theorem refL3d (s : TStory) (hgs : GoodS s) (hlim : Lim s) (a b : Nat) (go2 : List TDep → Int → Option (List TDep)) : ∀ (r k : Nat), k + r = 4 → ∀ acc : List TDep, acc.length + r ≤ 100000 → ∀ n, r < n →
    m25_quirref_Deps_L3 (a : Int) (b : Int) s go2 n acc (k : Int) = m25_quirref_Deps_K3 (b : Int) go2 (acc ++ kl (hg s) (a : Int) (b : Int) k r) := by
  intro r
  induction r with
  | zero =>
    intro k hk acc hacc n hn
    obtain ⟨n, rfl⟩ := dec n hn
    rw [m25_quirref_Deps_L3, m25_quirref_Deps_L3B, if_neg (by omega), kl, List.append_nil]
  | succ r ih =>
    intro k hk acc hacc n hn
    obtain ⟨n, rfl⟩ := dec n (by omega)
    rw [m25_quirref_Deps_L3, m25_quirref_Deps_L3B, if_pos (by omega), m25_quirref_Deps_K4, kl]
    by_cases c1 : (a : Int) ≠ (b : Int)
    · rw [if_pos c1, hangs_eq s hgs hlim, bind1_some]
      by_cases c2 : hg s a b k = true
      · rw [if_pos c2, app_ok (by simp; omega), bind1_some, isucc k (by omega), bind1_some, ih (k + 1) (by omega) _ (by simp; omega) n (by omega), if_pos ⟨c1, c2⟩, List.append_assoc]
      · rw [if_neg c2, isucc k (by omega), bind1_some, ih (k + 1) (by omega) _ (by omega) n (by omega), if_neg (fun h => c2 h.2), List.nil_append]
    · rw [if_neg c1, isucc k (by omega), bind1_some, ih (k + 1) (by omega) _ (by omega) n (by omega), if_neg (fun h => c1 h.1), List.nil_append]
theorem refL2d (s : TStory) (hgs : GoodS s) (hlim : Lim s) (a : Nat) (go1 : List TDep → Int → Option (List TDep)) : ∀ (r b : Nat), b + r = 12 → ∀ acc : List TDep, acc.length + 3 * r ≤ 90000 → ∀ n, r < n →
    m25_quirref_Deps_L2 (a : Int) s go1 n acc (b : Int) = m25_quirref_Deps_K2 (a : Int) go1 (acc ++ bl (hg s) (a : Int) b r) := by
  intro r
  induction r with
  | zero =>
    intro b hb acc hacc n hn
    obtain ⟨n, rfl⟩ := dec n hn
    rw [m25_quirref_Deps_L2, m25_quirref_Deps_L2B, if_neg (by omega), bl, List.append_nil]
  | succ r ih =>
    intro b hb acc hacc n hn
    obtain ⟨n, rfl⟩ := dec n (by omega)
    have h2 := refL3d s hgs hlim a b (m25_quirref_Deps_L2 (a : Int) s go1 n) 3 1 rfl acc (by omega) big (lt_big (by omega))
    have h4 : (acc ++ kl (hg s) (a : Int) (b : Int) 1 3).length + 3 * r ≤ 90000 := by
      have h3 := kl_len (hg s) (a : Int) (b : Int) 3 1
      rw [List.length_append]; omega
    rw [show ((1 : Nat) : Int) = 1 from rfl] at h2
    rw [m25_quirref_Deps_L2, m25_quirref_Deps_L2B, if_pos (by omega), h2, m25_quirref_Deps_K3, isucc b (by omega), bind1_some, ih (b + 1) (by omega) _ h4 n (by omega), bl, List.append_assoc]
theorem refL1d (s : TStory) (hgs : GoodS s) (hlim : Lim s) : ∀ (r a : Nat), a + r = 12 → ∀ acc : List TDep, acc.length + 36 * r ≤ 80000 → ∀ n, r < n →
    m25_quirref_Deps_L1 s n acc (a : Int) = some (acc ++ al (hg s) a r) := by
  intro r
  induction r with
  | zero =>
    intro a ha acc hacc n hn
    obtain ⟨n, rfl⟩ := dec n hn
    rw [m25_quirref_Deps_L1, m25_quirref_Deps_L1B, if_neg (by omega), m25_quirref_Deps_K1, al, List.append_nil]
  | succ r ih =>
    intro a ha acc hacc n hn
    obtain ⟨n, rfl⟩ := dec n (by omega)
    have h2 := refL2d s hgs hlim a (m25_quirref_Deps_L1 s n) 12 0 rfl acc (by omega) big (lt_big (by omega))
    have h4 : (acc ++ bl (hg s) (a : Int) 0 12).length + 36 * r ≤ 80000 := by
      have h3 := bl_len (hg s) (a : Int) 12 0
      rw [List.length_append]; omega
    rw [show ((0 : Nat) : Int) = 0 from rfl] at h2
    rw [m25_quirref_Deps_L1, m25_quirref_Deps_L1B, if_pos (by omega), h2, m25_quirref_Deps_K2, isucc a (by omega), bind1_some, ih (a + 1) (by omega) _ h4 n (by omega), al, List.append_assoc]
def depL (s : TStory) : List TDep := al (hg s) 0 12
theorem deps_ref (s : TStory) (hgs : GoodS s) (hlim : Lim s) : m25_quirref_Deps s = some (depL s) := by
  have h := refL1d s hgs hlim 12 0 rfl [] (by simp) big (lt_big (by omega))
  rw [show ((0 : Nat) : Int) = 0 from rfl, List.nil_append] at h
  rw [m25_quirref_Deps, h]
  rfl

/-! ### Both are one -/
theorem addD_mem {f t k : Int} {x : TDep} : x ∈ addD f t k ↔ x.From = f ∧ x.To = t ∧ x.Kind = k ∧ f ≠ t ∧ 0 ≤ f := by
  unfold addD
  split
  · rename_i h
    rw [List.mem_singleton]
    constructor
    · rintro rfl; exact ⟨rfl, rfl, rfl, h⟩
    · rintro ⟨h1, h2, h3, _⟩
      cases x
      simp only at *
      rw [h1, h2, h3]
  · rename_i h
    constructor
    · intro q; cases q
    · rintro ⟨_, _, _, q⟩; exact absurd q h
theorem rdeps_mem {s : TStory} (hgs : GoodS s) (hlim : Lim s) {t : TTale} (ht : t ∈ s.Tales) {g : TGot} (hgm : g ∈ t.Reads) {x : TDep} : x ∈ rdeps s t g ↔ x.From ≠ x.To ∧ 0 ≤ x.From ∧ 0 ≤ x.To ∧ x.To < 12 ∧ x.From < 12 ∧ x.Kind ≠ 1 ∧ pB s x.From x.To x.Kind t g = true := by
  have hok := hgs.got t ht g hgm
  have htx := hgs.tx t ht
  obtain ⟨l, v1, v2, v3⟩ := got_next hgs hlim hok
  have hp : ∀ a b k, pB s a b k t g = true ↔ (k = 2 ∧ t.Tx = b ∧ g.From = a) ∨ (k = 3 ∧ t.Tx = a ∧ (nv l g.From).getD (-1) = b) := by
    intro a b k
    unfold pB
    rw [v1]
    simp only [Bool.or_eq_true, Bool.and_eq_true, decide_eq_true_eq]
    constructor
    · rintro (⟨⟨h1, h2⟩, h3⟩ | ⟨⟨h1, h2⟩, h3⟩)
      · exact .inl ⟨h1, h2, h3⟩
      · exact .inr ⟨h1, h2, h3⟩
    · rintro (⟨h1, h2, h3⟩ | ⟨h1, h2, h3⟩)
      · exact .inl ⟨⟨h1, h2⟩, h3⟩
      · exact .inr ⟨⟨h1, h2⟩, h3⟩
  have hnv : ∀ b, nv l g.From = some b → 0 ≤ b ∧ b < 12 := fun b hb => by
    unfold nv at hb
    exact ver_pos hgs v2 (List.mem_of_getElem? (idx_some hb).2.2)
  have hfr : 0 ≤ g.From → g.From < 12 := fun h0 => by
    rcases hok.src with h | h
    · omega
    · exact (ver_pos hgs v2 (h l v1)).2
  unfold rdeps
  rw [v1, List.mem_append, addD_mem, hp]
  show (_ ∨ x ∈ (match nv l g.From with
    | some b => addD t.Tx b 3
    | none => [])) ↔ _
  cases hq : nv l g.From with
  | none =>
    simp only [List.not_mem_nil, or_false, Option.getD_none]
    constructor
    · rintro ⟨h1, h2, h3, h4, h5⟩
      exact ⟨by rw [h1, h2]; exact h4, by omega, by omega, by omega, by have := hfr h5; omega, by omega, .inl ⟨h3, h2.symm, h1.symm⟩⟩
    · rintro ⟨h1, h2, h3, h4, h5, h6, h7 | h7⟩
      · exact ⟨h7.2.2.symm, h7.2.1.symm, h7.1, by rw [h7.2.2, h7.2.1]; exact h1, by omega⟩
      · omega
  | some b =>
    have hb := hnv b hq
    simp only [addD_mem, Option.getD_some]
    constructor
    · rintro (⟨h1, h2, h3, h4, h5⟩ | ⟨h1, h2, h3, h4, h5⟩)
      · exact ⟨by rw [h1, h2]; exact h4, by omega, by omega, by omega, by have := hfr h5; omega, by omega, .inl ⟨h3, h2.symm, h1.symm⟩⟩
      · exact ⟨by rw [h1, h2]; exact h4, by omega, by omega, by omega, by omega, by omega, .inr ⟨h3, h1.symm, h2.symm⟩⟩
    · rintro ⟨h1, h2, h3, h4, h5, h6, h7 | h7⟩
      · exact .inl ⟨h7.2.2.symm, h7.2.1.symm, h7.1, by rw [h7.2.2, h7.2.1]; exact h1, by omega⟩
      · exact .inr ⟨h7.2.1.symm, h7.2.2.symm, h7.1, by rw [h7.2.1, h7.2.2]; exact h1, by omega⟩
theorem allD_mem {s : TStory} (hgs : GoodS s) (hlim : Lim s) (x : TDep) : x ∈ allD s ↔ x ∈ depL s := by
  unfold allD depL
  rw [List.mem_append, al_mem, List.mem_flatMap, List.mem_flatMap]
  unfold hg
  constructor
  · rintro (⟨l, hl, hx⟩ | ⟨t, ht, hx⟩)
    · obtain ⟨h1, h2, h3, h4⟩ := (prs_mem l).1 hx
      obtain ⟨m1, m2⟩ := adj_mem l h4
      have p1 := ver_pos hgs hl m1
      have p2 := ver_pos hgs hl m2
      refine ⟨by omega, by omega, by omega, by omega, by omega, by omega, h2, ?_⟩
      rw [if_pos h1, List.any_eq_true]
      exact ⟨l, hl, h4⟩
    · obtain ⟨g, hgm, hx⟩ := List.mem_flatMap.1 hx
      obtain ⟨h1, h2, h3, h4, h5, h6, h7⟩ := (rdeps_mem hgs hlim ht hgm).1 hx
      have hk : x.Kind = 2 ∨ x.Kind = 3 := by
        unfold pB at h7
        simp only [Bool.or_eq_true, Bool.and_eq_true, decide_eq_true_eq] at h7
        rcases h7 with h | h
        · exact .inl h.1.1
        · exact .inr h.1.1
      refine ⟨by omega, by omega, h3, h4, by omega, by omega, h1, ?_⟩
      rw [if_neg h6, List.any_eq_true]
      exact ⟨t, ht, List.any_eq_true.2 ⟨g, hgm, h7⟩⟩
  · rintro ⟨h1, h2, h3, h4, h5, h6, h7, h8⟩
    by_cases c : x.Kind = 1
    · rw [if_pos c, List.any_eq_true] at h8
      obtain ⟨l, hl, h9⟩ := h8
      exact .inl ⟨l, hl, (prs_mem l).2 ⟨c, h7, by omega, h9⟩⟩
    · rw [if_neg c, List.any_eq_true] at h8
      obtain ⟨t, ht, h9⟩ := h8
      obtain ⟨g, hgm, h10⟩ := List.any_eq_true.1 h9
      exact .inr ⟨t, ht, List.mem_flatMap.2 ⟨g, hgm, (rdeps_mem hgs hlim ht hgm).2 ⟨h7, by omega, h3, h4, by omega, c, h10⟩⟩⟩
theorem deps_one (s : TStory) (hgs : GoodS s) (hlim : Lim s) : cmpct (srtF cfDep (allD s)) = depL s :=
  sorted_one _ _ (cmpct_sorted (srt_sorted _)) (al_sorted _ _ _) fun x => by rw [cmpct_mem, srtF_mem, allD_mem hgs hlim]
theorem deps_own' (s : TStory) (hgs : GoodS s) (hlim : Lim s) : m19_order_Deps_K1 s = some (depL s, 0) := by rw [deps_own s hgs hlim, deps_one s hgs hlim]
theorem depL_len (s : TStory) : (depL s).length ≤ 432 := al_len _ 12 0
theorem depL_in (s : TStory) : ∀ x ∈ depL s, 0 ≤ x.From ∧ x.From < 12 ∧ 0 ≤ x.To ∧ x.To < 12 ∧ 1 ≤ x.Kind ∧ x.Kind < 4 := fun x hx => by
  obtain ⟨h1, h2, h3, h4, h5, h6, _⟩ := al_mem.1 hx
  exact ⟨by omega, by omega, h3, h4, h5, h6⟩
end Go.Proofs.Ytkhlapdkomnldaa
