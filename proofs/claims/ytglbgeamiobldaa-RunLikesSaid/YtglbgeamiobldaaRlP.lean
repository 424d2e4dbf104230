/-
  Runs that are alike: names of operations, pairs that clash.
  Conditions: none.
-/
import Derived.Test.YtglbgeamiobldaaRlO
import Derived.Test.YtglbgeamiobldaaRlN
namespace Go.Proofs.Ytglbgeamiobldaa
open Go.S Go.Sort
set_option linter.unusedVariables false
set_option linter.unusedSimpArgs false

/-! ### Lists in an order, and alike -/
theorem uniqR {α : Type} (r : α → α → Prop) (ha : ∀ x y, r x y → ¬ r y x) : ∀ (l1 l2 : List α), l1.Pairwise r → l2.Pairwise r → (∀ x, x ∈ l1 ↔ x ∈ l2) → l1 = l2
  | [], [], _, _, _ => rfl
  | [], b :: t2, _, _, h => absurd ((h b).2 (List.mem_cons_self ..)) (by simp)
  | a :: t1, [], _, _, h => absurd ((h a).1 (List.mem_cons_self ..)) (by simp)
  | a :: t1, b :: t2, h1, h2, h => by
    obtain ⟨g1, g2⟩ := List.pairwise_cons.1 h1
    obtain ⟨k1, k2⟩ := List.pairwise_cons.1 h2
    have e : a = b := by
      rcases List.mem_cons.1 ((h a).1 (List.mem_cons_self ..)) with e | e
      · exact e
      · rcases List.mem_cons.1 ((h b).2 (List.mem_cons_self ..)) with e2 | e2
        · exact e2.symm
        · exact absurd (k1 a e) (ha _ _ (g1 b e2))
    subst e
    rw [uniqR r ha t1 t2 g2 k2 fun x => ⟨fun hx => ?_, fun hx => ?_⟩]
    · rcases List.mem_cons.1 ((h x).1 (List.mem_cons_of_mem _ hx)) with e | e
      · have := g1 x hx
        rw [e] at this
        exact absurd this (ha _ _ this)
      · exact e
    · rcases List.mem_cons.1 ((h x).2 (List.mem_cons_of_mem _ hx)) with e | e
      · have := k1 x hx
        rw [e] at this
        exact absurd this (ha _ _ this)
      · exact e
theorem eq_at {α : Type} {a b : List α} (hl : a.length = b.length) : a = b ↔ ∀ i (h : i < a.length) (h2 : i < b.length), a[i] = b[i] := by
  constructor
  · rintro rfl i h h2; rfl
  · exact fun h => List.ext_getElem hl fun i h1 h2 => h i h1 h2
theorem opsL (a b : List TOp) (hl : a.length = b.length) (hb : a.length ≤ 1000000) : ∀ (r i : Nat), i + r = a.length → ∀ m, r < m → m12_api_Op_L1 a b m (i : Int) = some (decide (a.drop i = b.drop i)) := by
  intro r
  induction r with
  | zero =>
    intro i hi m hm
    obtain ⟨m, rfl⟩ := dec m hm
    rw [m12_api_Op_L1, m12_api_Op_L1B, if_neg (by omega), m12_api_Op_K2, List.drop_eq_nil_of_le (by omega), List.drop_eq_nil_of_le (by omega)]
    rfl
  | succ r ih =>
    intro i hi m hm
    obtain ⟨m, rfl⟩ := dec m (by omega)
    have h1 : i < a.length := by omega
    have h2 : i < b.length := by omega
    rw [m12_api_Op_L1, m12_api_Op_L1B, if_pos (by omega), idx_ok h1, bind1_some, idx_ok h2, bind1_some, drop_cons h1, drop_cons h2]
    by_cases c : a[i] = b[i]
    · rw [if_neg (by simp [c]), isucc i (by omega), bind1_some, ih (i + 1) (by omega) m (by omega)]
      congr 1
      exact decide_eq_decide.2 ⟨fun e => by rw [c, e], fun e => (List.cons.inj e).2⟩
    · rw [if_pos c, decide_eq_false (fun e => c (List.cons.inj e).1)]
theorem ops_eq (a b : List TOp) (hb : a.length ≤ 1000000) : m12_api_Op a b = some (decide (a = b)) := by
  rw [m12_api_Op]
  by_cases c : a.length = b.length
  · rw [if_neg (by omega), m12_api_Op_K1]
    exact opsL a b c hb a.length 0 (by omega) big (lt_big (by omega))
  · rw [if_pos (by omega), decide_eq_false (fun e => c (by rw [e]))]
theorem prsL (a b : List Tpair) (hl : a.length = b.length) (hb : a.length ≤ 1000000) : ∀ (r i : Nat), i + r = a.length → ∀ m, r < m → m15_run_pair_L1 a b m (i : Int) = some (decide (a.drop i = b.drop i)) := by
  intro r
  induction r with
  | zero =>
    intro i hi m hm
    obtain ⟨m, rfl⟩ := dec m hm
    rw [m15_run_pair_L1, m15_run_pair_L1B, if_neg (by omega), m15_run_pair_K2, List.drop_eq_nil_of_le (by omega), List.drop_eq_nil_of_le (by omega)]
    rfl
  | succ r ih =>
    intro i hi m hm
    obtain ⟨m, rfl⟩ := dec m (by omega)
    have h1 : i < a.length := by omega
    have h2 : i < b.length := by omega
    rw [m15_run_pair_L1, m15_run_pair_L1B, if_pos (by omega), idx_ok h1, bind1_some, idx_ok h2, bind1_some, drop_cons h1, drop_cons h2]
    by_cases c : a[i] = b[i]
    · rw [if_neg (by simp [c]), isucc i (by omega), bind1_some, ih (i + 1) (by omega) m (by omega)]
      congr 1
      exact decide_eq_decide.2 ⟨fun e => by rw [c, e], fun e => (List.cons.inj e).2⟩
    · rw [if_pos c, decide_eq_false (fun e => c (List.cons.inj e).1)]
theorem prs_eq (a b : List Tpair) (hb : a.length ≤ 1000000) : m15_run_pair a b = some (decide (a = b)) := by
  rw [m15_run_pair]
  by_cases c : a.length = b.length
  · rw [if_neg (by omega), m15_run_pair_K1]
    exact prsL a b c hb a.length 0 (by omega) big (lt_big (by omega))
  · rw [if_pos (by omega), decide_eq_false (fun e => c (by rw [e]))]

/-! ### Clashes -/
def cl (a b : TOp) : Bool := decide (a.Tx ≠ b.Tx) && decide (a.Item = b.Item) && decide (a.Kind ≤ 2) && decide (b.Kind ≤ 2) && (decide (a.Kind = 2) || decide (b.Kind = 2))
theorem clash1 (a b : TOp) : m28_run_clash a b = some (cl a b) := by
  unfold cl
  rw [m28_run_clash]
  by_cases c1 : a.Tx ≠ b.Tx
  · rw [if_pos c1]
    by_cases c2 : a.Kind < 3
    · rw [if_pos c2, m28_run_clash_K1, if_pos rfl]
      by_cases c3 : b.Kind < 3
      · rw [if_pos c3]
        by_cases c4 : a.Item = b.Item
        · rw [if_pos c4, m28_run_clash_K2, if_pos rfl]
          by_cases c5 : a.Kind = 2
          · rw [if_pos c5]; simp [c1, c4, c5]; omega
          · rw [if_neg c5]; simp [c1, c4, c5]; omega
        · rw [if_neg c4, m28_run_clash_K2, if_neg ff]; simp [c4]
      · rw [if_neg c3, m28_run_clash_K2, if_neg ff]; simp; omega
    · rw [if_neg c2, m28_run_clash_K1, if_neg ff]; simp; omega
  · rw [if_neg c1, m28_run_clash_K1, if_neg ff]; simp at c1; simp [c1]
theorem clash2 (a b : TOp) (ha : 1 ≤ a.Kind ∧ a.Kind ≤ 4) (hb : 1 ≤ b.Kind ∧ b.Kind ≤ 4) : m19_quirref_clash a b = some (cl a b) := by
  unfold cl
  rw [m19_quirref_clash]
  by_cases c1 : a.Tx ≠ b.Tx
  · rw [if_pos c1]
    by_cases c4 : a.Item = b.Item
    · rw [if_pos c4, m19_quirref_clash_K1, if_pos rfl]
      by_cases c2 : a.Kind ≤ 2
      · rw [if_pos c2]
        by_cases c3 : b.Kind ≤ 2
        · rw [if_pos c3, m19_quirref_clash_K2, if_pos rfl, i64_ok (by omega) (by omega), bind1_some]
          by_cases c5 : a.Kind = 2
          · rw [decide_eq_true (show 2 < a.Kind + b.Kind by omega)]; simp [c1, c4, c2, c3, c5]
          · by_cases c6 : b.Kind = 2
            · rw [decide_eq_true (show 2 < a.Kind + b.Kind by omega)]; simp [c1, c4, c2, c3, c6]
            · rw [decide_eq_false (show ¬2 < a.Kind + b.Kind by omega)]; simp [c5, c6]
        · rw [if_neg c3, m19_quirref_clash_K2, if_neg ff]; simp [c3]
      · rw [if_neg c2, m19_quirref_clash_K2, if_neg ff]; simp [c2]
    · rw [if_neg c4, m19_quirref_clash_K1, if_neg ff]; simp [c4]
  · rw [if_neg c1, m19_quirref_clash_K1, if_neg ff]; simp at c1; simp [c1]
theorem cl_symm (a b : TOp) : cl a b = cl b a := by
  unfold cl
  rw [show decide (a.Tx ≠ b.Tx) = decide (b.Tx ≠ a.Tx) from decide_eq_decide.2 ⟨Ne.symm, Ne.symm⟩, show decide (a.Item = b.Item) = decide (b.Item = a.Item) from decide_eq_decide.2 ⟨Eq.symm, Eq.symm⟩]
  cases decide (b.Tx ≠ a.Tx) <;> cases decide (b.Item = a.Item) <;> cases decide (a.Kind ≤ 2) <;> cases decide (b.Kind ≤ 2) <;> cases decide (a.Kind = 2) <;> cases decide (b.Kind = 2) <;> rfl

/-! ### Own operations, and names -/
def own (l : List TOp) (t : Int) : List TOp := l.filter fun o => decide (o.Tx = t)
def cntT (p : List TOp) (t : Int) : Int := ((own p t).length : Int)
theorem own_le (l : List TOp) (t : Int) : (own l t).length ≤ l.length := List.length_filter_le ..
theorem own_snoc (p : List TOp) (o : TOp) (t : Int) : own (p ++ [o]) t = own p t ++ if o.Tx = t then [o] else [] := by
  unfold own
  rw [List.filter_append]
  congr 1
  by_cases c : o.Tx = t <;> simp [c]
theorem cntT_snoc (p : List TOp) (o : TOp) (t : Int) : cntT (p ++ [o]) t = cntT p t + if o.Tx = t then 1 else 0 := by
  unfold cntT
  rw [own_snoc, List.length_append]
  split <;> simp
theorem own_eq (l : List TOp) (t : Int) (hl : l.length ≤ 1000000) : m18_quirref_Own l t = some (own l t) := by
  have key : ∀ (r i : Nat), i + r = l.length → ∀ m, r < m → m18_quirref_Own_L1 l t m (own (l.take i) t) (i : Int) = some (own l t) := by
    intro r
    induction r with
    | zero =>
      intro i hi m hm
      obtain ⟨m, rfl⟩ := dec m hm
      rw [m18_quirref_Own_L1, m18_quirref_Own_L1B, if_neg (by omega), m18_quirref_Own_K1, List.take_of_length_le (by omega)]
    | succ r ih =>
      intro i hi m hm
      obtain ⟨m, rfl⟩ := dec m (by omega)
      have h1 : i < l.length := by omega
      have h2 := own_le (l.take i) t
      have h3 := own_snoc (l.take i) l[i] t
      rw [← take_snoc h1] at h3
      rw [List.length_take] at h2
      rw [m18_quirref_Own_L1, m18_quirref_Own_L1B, if_pos (by omega), idx_ok h1, bind1_some]
      by_cases c : l[i].Tx = t
      · rw [if_pos c] at h3
        rw [if_pos c, app_ok (by simp only [List.length_cons, List.length_nil]; omega), bind1_some, isucc i (by omega), bind1_some, ← h3, ih (i + 1) (by omega) m (by omega)]
      · rw [if_neg c, List.append_nil] at h3
        rw [if_neg c, isucc i (by omega), bind1_some, ← h3, ih (i + 1) (by omega) m (by omega)]
  have := key l.length 0 (by omega) big (lt_big (by omega))
  rw [m18_quirref_Own]
  exact this
/-- The transaction at a place, and which one of its operations it is. -/
def txA (l : List TOp) (i : Nat) : Int := match l[i]? with
  | some o => o.Tx
  | none => -1
def whA (l : List TOp) (i : Nat) : Int := cntT (l.take i) (txA l i)
theorem txA_at {l : List TOp} {i : Nat} (h : i < l.length) : txA l i = l[i].Tx := by rw [txA, List.getElem?_eq_getElem h]
theorem which_eq (l : List TOp) (hl : l.length ≤ 1000000) {i : Nat} (h : i < l.length) : m21_quirref_whichOne l (i : Int) = some (whA l i) := by
  have h2 := own_eq (l.take i) l[i].Tx (by rw [List.length_take]; omega)
  rw [m21_quirref_whichOne, cut_take _ _ (by omega), bind1_some, idx_ok h, bind1_some, h2, bind1_some, whA, txA_at h]
  rfl
theorem own_take (l : List TOp) (t : Int) {i j : Nat} (h : i ≤ j) : (own (l.take i) t).length ≤ (own (l.take j) t).length := by
  have e : l.take i = (l.take j).take i := by rw [List.take_take, Nat.min_eq_left h]
  rw [e]
  unfold own
  exact ((List.take_sublist i (l.take j)).filter _).length_le
/-- A name stands for one place. -/
theorem name_inj {l : List TOp} {i j : Nat} (hi : i < l.length) (hj : j < l.length) (ht : txA l i = txA l j) (hw : whA l i = whA l j) : i = j := by
  have key : ∀ {i j : Nat}, i < j → j < l.length → txA l i = txA l j → whA l i = whA l j → False := by
    intro i j hij hj ht hw
    have hi : i < l.length := by omega
    unfold whA cntT at hw
    rw [← ht, txA_at hi] at hw
    have h1 := own_snoc (l.take i) l[i] l[i].Tx
    rw [← take_snoc hi, if_pos rfl] at h1
    have h2 := own_take l l[i].Tx (show i + 1 ≤ j by omega)
    rw [h1, List.length_append, List.length_singleton] at h2
    omega
  rcases Nat.lt_trichotomy i j with h | h | h
  · exact (key h hj ht hw).elim
  · exact h
  · exact (key h hi ht.symm hw.symm).elim
/-- Where an operation is, by its name. -/
def nthF (t : Int) : List TOp → Nat → Int → Int
  | [], _, _ => -1
  | o :: l, i, c => if o.Tx = t then (if c = 0 then (i : Int) else nthF t l (i + 1) (c - 1)) else nthF t l (i + 1) c
theorem nth_eq (l : List TOp) (t c : Int) (hl : l.length ≤ 1000000) (hc : -1000000 ≤ c ∧ c ≤ 1000000) : m20_quirref_nth l t c = some (nthF t l 0 c) := by
  have key : ∀ (r i : Nat), i + r = l.length → ∀ (c : Int), -2000000 ≤ c - r ∧ c ≤ 1000000 → ∀ m, r < m → m20_quirref_nth_L1 l t m c (i : Int) = some (nthF t (l.drop i) i c) := by
    intro r
    induction r with
    | zero =>
      intro i hi c hc m hm
      obtain ⟨m, rfl⟩ := dec m hm
      rw [m20_quirref_nth_L1, m20_quirref_nth_L1B, if_neg (by omega), m20_quirref_nth_K1, List.drop_eq_nil_of_le (by omega), nthF]
    | succ r ih =>
      intro i hi c hc m hm
      obtain ⟨m, rfl⟩ := dec m (by omega)
      have h1 : i < l.length := by omega
      rw [m20_quirref_nth_L1, m20_quirref_nth_L1B, if_pos (by omega), idx_ok h1, bind1_some, drop_cons h1, nthF]
      by_cases c1 : l[i].Tx = t
      · rw [if_neg (by simp [c1]), if_pos c1]
        by_cases c2 : c = 0
        · rw [if_pos c2, if_pos c2]
        · rw [if_neg c2, if_neg c2, i64_ok (by omega) (by omega), bind1_some, m20_quirref_nth_K2, isucc i (by omega), bind1_some, ih (i + 1) (by omega) _ (by omega) m (by omega)]
      · rw [if_pos c1, if_neg c1, m20_quirref_nth_K2, isucc i (by omega), bind1_some, ih (i + 1) (by omega) _ (by omega) m (by omega)]
  have := key l.length 0 (by omega) c (by omega) big (lt_big (by omega))
  rw [List.drop_zero] at this
  rw [m20_quirref_nth]
  exact this
theorem nthF_at {t : Int} : ∀ (l : List TOp) (i j : Nat) (h : j < l.length), l[j].Tx = t → nthF t l i (cntT (l.take j) t) = ((i + j : Nat) : Int)
  | o :: l, i, 0, h, ht => by
    have ht' : o.Tx = t := ht
    rw [nthF, if_pos ht', List.take_zero, if_pos (show cntT [] t = 0 from rfl)]
    rfl
  | o :: l, i, j + 1, h, ht => by
    have hj : j < l.length := by simpa using h
    have ht' : l[j].Tx = t := ht
    have ih := nthF_at l (i + 1) j hj ht'
    rw [nthF, List.take_succ_cons]
    by_cases c : o.Tx = t
    · have e : cntT (o :: l.take j) t = cntT (l.take j) t + 1 := by unfold cntT own; simp [c]
      have h0 : 0 ≤ cntT (l.take j) t := by unfold cntT; omega
      rw [if_pos c, e, if_neg (by omega), show cntT (l.take j) t + 1 - 1 = cntT (l.take j) t by omega, ih]
      congr 1
      omega
    · have e : cntT (o :: l.take j) t = cntT (l.take j) t := by unfold cntT own; simp [c]
      rw [if_neg c, e, ih]
      congr 1
      omega
theorem nthF_wh {l : List TOp} {j : Nat} (h : j < l.length) : nthF (txA l j) l 0 (whA l j) = (j : Int) := by
  have := nthF_at (t := txA l j) l 0 j h (txA_at h).symm
  rw [Nat.zero_add] at this
  exact this
/-- What stands at a place of the own ones, stands somewhere. -/
theorem own_pos {t : Int} : ∀ (l : List TOp) (c : Nat) (h : c < (own l t).length), ∃ j, ∃ hj : j < l.length, l[j].Tx = t ∧ cntT (l.take j) t = (c : Int) ∧ l[j] = (own l t)[c]
  | [], c, h => by simp [own] at h
  | o :: l, c, h => by
    by_cases ct : o.Tx = t
    · have e : own (o :: l) t = o :: own l t := by unfold own; simp [ct]
      cases c with
      | zero => exact ⟨0, by simp, ct, rfl, by simp only [e]; rfl⟩
      | succ c =>
        obtain ⟨j, hj, h1, h2, h3⟩ := own_pos l c (by rw [e] at h; simpa using h)
        refine ⟨j + 1, by simpa using hj, h1, ?_, ?_⟩
        · rw [List.take_succ_cons]
          have : cntT (o :: l.take j) t = cntT (l.take j) t + 1 := by unfold cntT own; simp [ct]
          rw [this, h2]
          omega
        · simp only [e, List.getElem_cons_succ]
          exact h3
    · have e : own (o :: l) t = own l t := by unfold own; simp [ct]
      obtain ⟨j, hj, h1, h2, h3⟩ := own_pos l c (by rw [e] at h; exact h)
      refine ⟨j + 1, by simpa using hj, h1, ?_, ?_⟩
      · rw [List.take_succ_cons]
        have : cntT (o :: l.take j) t = cntT (l.take j) t := by unfold cntT own; simp [ct]
        rw [this, h2]
      · simp only [e, List.getElem_cons_succ]
        exact h3
theorem own_at {t : Int} {l : List TOp} {i : Nat} (h : i < l.length) (ht : l[i].Tx = t) : ∃ hc : (own (l.take i) t).length < (own l t).length, (own l t)[(own (l.take i) t).length] = l[i] := by
  have e : own l t = own (l.take i) t ++ l[i] :: own (l.drop (i + 1)) t := by
    conv => lhs; rw [← List.take_append_drop i l, drop_cons h]
    unfold own
    rw [List.filter_append, List.filter_cons, if_pos (by simp [ht])]
  refine ⟨by rw [e]; simp, ?_⟩
  simp only [e]
  rw [List.getElem_append_right (Nat.le_refl _)]
  simp
/-- The place in another run of the same names. -/
theorem mirror {a b : List TOp} (h : ∀ t, own a t = own b t) {i : Nat} (hi : i < a.length) : ∃ j, ∃ hj : j < b.length, txA b j = txA a i ∧ whA b j = whA a i ∧ b[j] = a[i] := by
  obtain ⟨hc, he⟩ := own_at hi rfl
  have hc' : (own (a.take i) a[i].Tx).length < (own b a[i].Tx).length := by rw [← h]; exact hc
  obtain ⟨j, hj, h1, h2, h3⟩ := own_pos b _ hc'
  have q1 : (own a a[i].Tx)[(own (a.take i) a[i].Tx).length]? = some a[i] := by rw [List.getElem?_eq_getElem hc, he]
  have q2 : (own b a[i].Tx)[(own (a.take i) a[i].Tx).length]? = some b[j] := by rw [List.getElem?_eq_getElem hc', h3]
  have e3 : b[j] = a[i] := by
    rw [h a[i].Tx, q2] at q1
    exact Option.some.inj q1
  refine ⟨j, hj, ?_, ?_, e3⟩
  · rw [txA_at hj, txA_at hi, h1]
  · unfold whA
    rw [txA_at hj, txA_at hi, h1, h2]
    rfl

/-! ### Pairs -/
def clA (l : List TOp) (i k : Nat) : Bool := match l[i]?, l[k]? with
  | some o, some p => cl o p
  | _, _ => false
theorem clA_at {l : List TOp} {i k : Nat} (hi : i < l.length) (hk : k < l.length) : clA l i k = cl l[i] l[k] := by
  rw [clA, List.getElem?_eq_getElem hi, List.getElem?_eq_getElem hk]
def prA (l : List TOp) (i k : Nat) : Tpair := ⟨txA l i, whA l i, txA l k, whA l k⟩
def rowL (l : List TOp) (i : Nat) : Nat → Nat → List Tpair
  | _, 0 => []
  | k, r + 1 => if clA l i k = true then prA l i k :: rowL l i (k + 1) r else rowL l i (k + 1) r
def allL (l : List TOp) : Nat → Nat → List Tpair
  | _, 0 => []
  | i, r + 1 => rowL l i (i + 1) r ++ allL l (i + 1) r
theorem rowL_mem {l : List TOp} {i : Nat} {x : Tpair} : ∀ (r k : Nat), x ∈ rowL l i k r ↔ ∃ q, k ≤ q ∧ q < k + r ∧ clA l i q = true ∧ x = prA l i q
  | 0, k => by simp [rowL]; omega
  | r + 1, k => by
    rw [rowL]
    by_cases c : clA l i k = true
    · rw [if_pos c, List.mem_cons, rowL_mem r (k + 1)]
      constructor
      · rintro (h | ⟨q, h1, h2, h3⟩)
        · exact ⟨k, by omega, by omega, c, h⟩
        · exact ⟨q, by omega, by omega, h3⟩
      · rintro ⟨q, h1, h2, h3, h4⟩
        by_cases e : q = k
        · rw [e] at h4; exact .inl h4
        · exact .inr ⟨q, by omega, by omega, h3, h4⟩
    · rw [if_neg c, rowL_mem r (k + 1)]
      constructor
      · rintro ⟨q, h1, h2, h3⟩; exact ⟨q, by omega, by omega, h3⟩
      · rintro ⟨q, h1, h2, h3, h4⟩
        by_cases e : q = k
        · rw [e] at h3; exact absurd h3 c
        · exact ⟨q, by omega, by omega, h3, h4⟩
theorem rowL_len {l : List TOp} {i : Nat} : ∀ (r k : Nat), (rowL l i k r).length ≤ r
  | 0, k => Nat.le_refl _
  | r + 1, k => by
    have := rowL_len (l := l) (i := i) r (k + 1)
    rw [rowL]
    split
    · rw [List.length_cons]; omega
    · omega
theorem allL_mem {l : List TOp} {x : Tpair} : ∀ (r i : Nat), x ∈ allL l i r ↔ ∃ p q, i ≤ p ∧ p < q ∧ q < i + r ∧ clA l p q = true ∧ x = prA l p q
  | 0, i => by
    simp only [allL, List.not_mem_nil, false_iff]
    rintro ⟨p, q, h1, h2, h3, _⟩
    omega
  | r + 1, i => by
    rw [allL, List.mem_append, rowL_mem, allL_mem r (i + 1)]
    constructor
    · rintro (⟨q, h1, h2, h3, h4⟩ | ⟨p, q, h1, h2, h3, h4⟩)
      · exact ⟨i, q, by omega, by omega, by omega, h3, h4⟩
      · exact ⟨p, q, by omega, h2, by omega, h4⟩
    · rintro ⟨p, q, h1, h2, h3, h4, h5⟩
      by_cases e : p = i
      · rw [e] at h4 h5 h2; exact .inl ⟨q, by omega, by omega, h4, h5⟩
      · exact .inr ⟨p, q, by omega, h2, by omega, h4, h5⟩
theorem allL_len {l : List TOp} (n : Nat) : ∀ (r i : Nat), r ≤ n → (allL l i r).length ≤ n * r
  | 0, i, _ => Nat.zero_le _
  | r + 1, i, h => by
    have h1 := allL_len (l := l) n r (i + 1) (by omega)
    have h2 := rowL_len (l := l) (i := i) r (i + 1)
    rw [allL, List.length_append, Nat.mul_succ]
    omega
theorem prA_inj {l : List TOp} {i k i' k' : Nat} (h : prA l i k = prA l i' k') : txA l i = txA l i' ∧ whA l i = whA l i' ∧ txA l k = txA l k' ∧ whA l k = whA l k' := by
  simpa [prA] using h
theorem rowL_nodup {l : List TOp} {i : Nat} : ∀ (r k : Nat), k + r ≤ l.length → (rowL l i k r).Nodup
  | 0, k, _ => .nil
  | r + 1, k, h => by
    rw [rowL]
    split
    · refine List.nodup_cons.2 ⟨fun hm => ?_, rowL_nodup r (k + 1) (by omega)⟩
      obtain ⟨q, h1, h2, _, h4⟩ := (rowL_mem r (k + 1)).1 hm
      obtain ⟨_, _, e1, e2⟩ := prA_inj h4
      have := name_inj (show k < l.length by omega) (show q < l.length by omega) e1 e2
      omega
    · exact rowL_nodup r (k + 1) (by omega)
theorem allL_nodup {l : List TOp} : ∀ (r i : Nat), i + r ≤ l.length → (allL l i r).Nodup
  | 0, i, _ => .nil
  | r + 1, i, h => by
    rw [allL, List.nodup_append]
    refine ⟨rowL_nodup r (i + 1) (by omega), allL_nodup r (i + 1) (by omega), fun x hx y hy e => ?_⟩
    obtain ⟨q, h1, h2, _, h4⟩ := (rowL_mem r (i + 1)).1 hx
    obtain ⟨p, q', g1, g2, g3, _, g4⟩ := (allL_mem r (i + 1)).1 hy
    rw [e, g4] at h4
    obtain ⟨e1, e2, _, _⟩ := prA_inj h4
    have := name_inj (show p < l.length by omega) (show i < l.length by omega) e1 e2
    omega
def pairsL (l : List TOp) : List Tpair := allL l 0 l.length
theorem srtP_lt {p : List Tpair} (h : p.Nodup) : (srtF cfP p).Pairwise ahd := by
  have h1 : (srtF cfP p).Pairwise fun x y => (!(ltOf cfP) y x) = true := by
    unfold srtF
    refine List.pairwise_mergeSort (fun x y z h1 h2 => ?_) (fun x y => ?_) p
    · rw [lt30] at *
      simp only [Bool.not_eq_true', decide_eq_false_iff_not] at *
      unfold ahd at *
      omega
    · rw [lt30, lt30]
      simp only [Bool.or_eq_true, Bool.not_eq_true', decide_eq_false_iff_not]
      unfold ahd
      omega
  have hp : (srtF cfP p).Perm p := by unfold srtF; exact List.mergeSort_perm p _
  have h2 : (srtF cfP p).Nodup := hp.nodup_iff.2 h
  refine (List.pairwise_and_iff.2 ⟨h1, h2⟩).imp fun {x y} h => ?_
  have h3 : x ≠ y := h.2
  have h4 := h.1
  rw [lt30] at h4
  simp only [Bool.not_eq_true', decide_eq_false_iff_not] at h4
  have h5 : ¬ (x.a_ = y.a_ ∧ x.i_ = y.i_ ∧ x.b_ = y.b_ ∧ x.k_ = y.k_) := by
    rintro ⟨e1, e2, e3, e4⟩
    exact h3 (by cases x; cases y; simp only at e1 e2 e3 e4; rw [e1, e2, e3, e4])
  unfold ahd at *
  omega
theorem srtP_eq {p q : List Tpair} (hp : p.Nodup) (hq : q.Nodup) : srtF cfP p = srtF cfP q ↔ ∀ x, x ∈ p ↔ x ∈ q := by
  constructor
  · intro h x
    rw [← srtF_mem (cf := cfP) (l := p), h, srtF_mem]
  · intro h
    refine uniqR ahd (fun x y => ?_) _ _ (srtP_lt hp) (srtP_lt hq) fun x => ?_
    · unfold ahd; omega
    · rw [srtF_mem, srtF_mem]; exact h x
/-- Pairs are the same ones: whoever is ahead, is ahead there. -/
theorem same_pairs {a b : List TOp} (h : ∀ t, own a t = own b t) : (∀ x, x ∈ pairsL a ↔ x ∈ pairsL b) ↔ ∀ i k, i < k → k < a.length → clA a i k = true → ¬ nthF (txA a k) b 0 (whA a k) < nthF (txA a i) b 0 (whA a i) := by
  have hn : ∀ {j : Nat} {t w : Int}, j < b.length → txA b j = t → whA b j = w → nthF t b 0 w = (j : Int) := fun {j t w} hj h1 h2 => by
    rw [← h1, ← h2]; exact nthF_wh hj
  constructor
  · intro hp i k hik hk hc
    obtain ⟨p, q, g1, g2, g3, g4, g5⟩ := (allL_mem b.length 0).1 ((hp (prA a i k)).1 ((allL_mem a.length 0).2 ⟨i, k, by omega, hik, by omega, hc, rfl⟩))
    have g5' : (⟨txA a i, whA a i, txA a k, whA a k⟩ : Tpair) = ⟨txA b p, whA b p, txA b q, whA b q⟩ := g5
    simp only [Tpair.mk.injEq] at g5'
    obtain ⟨e1, e2, e3, e4⟩ := g5'
    rw [hn (show q < b.length by omega) e3.symm e4.symm, hn (show p < b.length by omega) e1.symm e2.symm]
    omega
  · intro hp x
    constructor
    · intro hx
      obtain ⟨i, k, _, hik, hk, hc, rfl⟩ := (allL_mem a.length 0).1 hx
      have hk' : k < a.length := by omega
      have hi' : i < a.length := by omega
      obtain ⟨j, hj, j1, j2, j3⟩ := mirror h hi'
      obtain ⟨j', hj', k1, k2, k3⟩ := mirror h hk'
      have hno := hp i k hik hk' hc
      rw [hn hj' k1 k2, hn hj j1 j2] at hno
      have hne : j ≠ j' := by
        rintro rfl
        have := name_inj hi' hk' (by rw [← j1, k1]) (by rw [← j2, k2])
        omega
      refine (allL_mem b.length 0).2 ⟨j, j', by omega, by omega, by omega, ?_, ?_⟩
      · rw [clA_at hj hj', j3, k3, ← clA_at hi' hk']; exact hc
      · rw [prA, prA, j1, j2, k1, k2]
    · intro hx
      obtain ⟨j, j', _, hjj, hj', hc, rfl⟩ := (allL_mem b.length 0).1 hx
      have hb' : j' < b.length := by omega
      have hb : j < b.length := by omega
      obtain ⟨i, hi, i1, i2, i3⟩ := mirror (fun t => (h t).symm) hb
      obtain ⟨k, hk, k1, k2, k3⟩ := mirror (fun t => (h t).symm) hb'
      have hne : i ≠ k := by
        rintro rfl
        have := name_inj hb hb' (by rw [← i1, k1]) (by rw [← i2, k2])
        omega
      have hcc : cl a[i] a[k] = true := by rw [i3, k3, ← clA_at hb hb']; exact hc
      rcases Nat.lt_or_gt_of_ne hne with hlt | hgt
      · refine (allL_mem a.length 0).2 ⟨i, k, by omega, hlt, by omega, ?_, ?_⟩
        · rw [clA_at hi hk]; exact hcc
        · rw [prA, prA, i1, i2, k1, k2]
      · have hno := hp k i hgt hi (by rw [clA_at hk hi, cl_symm]; exact hcc)
        rw [i1, i2, k1, k2, hn hb rfl rfl, hn hb' rfl rfl] at hno
        omega
end Go.Proofs.Ytglbgeamiobldaa
