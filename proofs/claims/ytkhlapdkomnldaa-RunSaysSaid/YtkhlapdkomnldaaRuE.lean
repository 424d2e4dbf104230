/-
  Edges and Serial of a run: the models of both answer alike.
  Conditions: none.
-/
import Derived.Test.YtkhlapdkomnldaaRuP
import Derived.Test.YtkhlapdkomnldaaRuL
namespace Go.Proofs.Ytkhlapdkomnldaa
open Go.S
set_option linter.unusedVariables false
set_option linter.unusedSimpArgs false

/-! ### Clashes, ends -/
def cl (a b : TOp) : Bool := decide (a.Tx ≠ b.Tx) && decide (a.Item = b.Item) && decide (a.Kind ≤ 2) && decide (b.Kind ≤ 2) && (decide (a.Kind = 2) || decide (b.Kind = 2))
theorem clash1 (a b : TOp) : m41_run_clash a b = some (cl a b) := by
  unfold cl
  rw [m41_run_clash]
  by_cases c1 : a.Tx ≠ b.Tx
  · rw [if_pos c1]
    by_cases c2 : a.Kind < 3
    · rw [if_pos c2, m41_run_clash_K1, if_pos rfl]
      by_cases c3 : b.Kind < 3
      · rw [if_pos c3]
        by_cases c4 : a.Item = b.Item
        · rw [if_pos c4, m41_run_clash_K2, if_pos rfl]
          by_cases c5 : a.Kind = 2
          · rw [if_pos c5]; simp [c1, c4, c5]; omega
          · rw [if_neg c5]; simp [c1, c4, c5]; omega
        · rw [if_neg c4, m41_run_clash_K2, if_neg ff]; simp [c4]
      · rw [if_neg c3, m41_run_clash_K2, if_neg ff]; simp; omega
    · rw [if_neg c2, m41_run_clash_K1, if_neg ff]; simp; omega
  · rw [if_neg c1, m41_run_clash_K1, if_neg ff]; simp at c1; simp [c1]
theorem clash2 (a b : TOp) (ha : 1 ≤ a.Kind ∧ a.Kind ≤ 4) (hb : 1 ≤ b.Kind ∧ b.Kind ≤ 4) : m50_quirref_clash a b = some (cl a b) := by
  unfold cl
  rw [m50_quirref_clash]
  by_cases c1 : a.Tx ≠ b.Tx
  · rw [if_pos c1]
    by_cases c4 : a.Item = b.Item
    · rw [if_pos c4, m50_quirref_clash_K1, if_pos rfl]
      by_cases c2 : a.Kind ≤ 2
      · rw [if_pos c2]
        by_cases c3 : b.Kind ≤ 2
        · rw [if_pos c3, m50_quirref_clash_K2, if_pos rfl, i64_ok (by omega) (by omega), bind1_some]
          by_cases c5 : a.Kind = 2
          · rw [decide_eq_true (show 2 < a.Kind + b.Kind by omega)]; simp [c1, c4, c2, c3, c5]
          · by_cases c6 : b.Kind = 2
            · rw [decide_eq_true (show 2 < a.Kind + b.Kind by omega)]; simp [c1, c4, c2, c3, c6]
            · rw [decide_eq_false (show ¬2 < a.Kind + b.Kind by omega)]; simp [c5, c6]
        · rw [if_neg c3, m50_quirref_clash_K2, if_neg ff]; simp [c3]
      · rw [if_neg c2, m50_quirref_clash_K2, if_neg ff]; simp [c2]
    · rw [if_neg c4, m50_quirref_clash_K1, if_neg ff]; simp [c4]
  · rw [if_neg c1, m50_quirref_clash_K1, if_neg ff]; simp at c1; simp [c1]
/-- Is there such an end? -/
def en (l : List TOp) (k t : Int) : Bool := decide ((⟨t, k, 0⟩ : TOp) ∈ l)
theorem en_snoc (p : List TOp) (o : TOp) (k t : Int) (ho : o.Kind = k → o.Item = 0) : en (p ++ [o]) k t = (en p k t || (decide (o.Kind = k) && decide (o.Tx = t))) := by
  unfold en
  by_cases c : (⟨t, k, 0⟩ : TOp) ∈ p
  · simp [c]
  · by_cases c1 : o.Kind = k
    · by_cases c2 : o.Tx = t
      · have : (⟨t, k, 0⟩ : TOp) = o := by
          cases o
          simp only at c1 c2 ho
          rw [← c1, ← c2, ho c1]
        simp [c, c1, c2, this]
      · have : (⟨t, k, 0⟩ : TOp) ≠ o := by rintro rfl; exact c2 rfl
        simp [c, c1, c2, this]
    · have : (⟨t, k, 0⟩ : TOp) ≠ o := by rintro rfl; exact c1 rfl
      simp [c, c1, this]
theorem endedLoop (l : List TOp) (hg : Good l) : ∀ (r i : Nat), i + r = l.length → ∀ n, r < n → m40_run_ended_L1 l 3 n (i : Int) (tab 12 (en (l.take i) 3)) = some (tab 12 (en l 3)) := by
  have hl := hg.len
  intro r
  induction r with
  | zero =>
    intro i hi n hn
    obtain ⟨n, rfl⟩ := dec n hn
    rw [m40_run_ended_L1, m40_run_ended_L1B, if_neg (by omega), List.take_of_length_le (by omega), m40_run_ended_K1, arrN_ok (tab_length ..), bind1_some, arrN_ok (by simp), bind1_some, bind1_some, bind1_some]
  | succ r ih =>
    intro i hi n hn
    obtain ⟨n, rfl⟩ := dec n (by omega)
    have h1 : i < l.length := by omega
    have hf := hg.fine i h1
    rw [m40_run_ended_L1, m40_run_ended_L1B, if_pos (by omega), idx_ok h1, bind1_some, isucc i (by omega), ← ih (i + 1) (by omega) n (by omega), take_snoc h1]
    by_cases c : l[i].Kind = 3
    · rw [if_pos c, tab_idxA hf.t0 hf.t1, bind1_some, tab_upd _ hf.t0 hf.t1, bind1_some, bind1_some]
      congr 1
      apply tab_ext
      intro x _ _
      rw [en_snoc _ _ _ _ (fun h => hf.item (by omega))]
      by_cases c2 : x = l[i].Tx
      · rw [if_pos c2]; simp [c, c2]
      · rw [if_neg c2]; simp [Ne.symm c2]
    · rw [if_neg c, bind1_some]
      congr 1
      apply tab_ext
      intro x _ _
      rw [en_snoc _ _ _ _ (fun h => hf.item (by omega))]
      simp [c]
theorem ended_eq (l : List TOp) (hg : Good l) : m40_run_ended l 3 = some (tab 12 (en l 3)) := by
  rw [m40_run_ended, tab_repl]
  exact endedLoop l hg l.length 0 (by omega) big (lt_big (by have := hg.len; omega))

/-! ### Which edges are there -/
def hit (l : List TOp) (o p : TOp) (x : Int) : Bool := cl o p && en l 3 o.Tx && en l 3 p.Tx && decide (x = o.Tx * 12 + p.Tx)
def tbl (l : List TOp) : List TOp → Int → Bool
  | [], _ => false
  | o :: r, x => (r.any fun p => hit l o p x) || tbl l r x
theorem idx2_tab {α : Type} {f : Int → α} {a b : Int} (h0 : 0 ≤ a) (h1 : a < 12) (g0 : 0 ≤ b) (g1 : b < 12) : idx2 12 (tab 144 f) a b = some (f (a * 12 + b)) := by
  unfold idx2
  rw [if_pos ⟨h0, g0, by omega⟩]
  exact tab_idx (by omega) (by omega)
theorem rng_ok {n : Nat} {a : Int} (h0 : 0 ≤ a) (h1 : a < n) : rng n a = some () := if_pos ⟨h0, h1⟩
theorem innerL4 (l : List TOp) (hg : Good l) (o : TOp) (ho : 0 ≤ o.Tx ∧ o.Tx < 12) (s : List TOp) (hs : ∀ p ∈ s, 0 ≤ p.Tx ∧ p.Tx < 12) (hsl : s.length ≤ 200) (gx12 : Int) (go3 : Int → List Bool → Option (List TEdge × Int)) : ∀ (r j : Nat), j + r = s.length → ∀ (f : Int → Bool) n, r < n →
    m9_run_Edges_L4 s o (tab 12 (en l 3)) gx12 go3 n (j : Int) (tab 144 f) = m9_run_Edges_K5 gx12 go3 (tab 144 fun x => f x || (s.drop j).any fun p => hit l o p x) := by
  intro r
  induction r with
  | zero =>
    intro j hj f n hn
    obtain ⟨n, rfl⟩ := dec n hn
    rw [m9_run_Edges_L4, m9_run_Edges_L4B, if_neg (by omega), List.drop_eq_nil_of_le (by omega)]
    congr 1
    apply tab_ext
    intro x _ _
    simp
  | succ r ih =>
    intro j hj f n hn
    obtain ⟨n, rfl⟩ := dec n (by omega)
    have h1 : j < s.length := by omega
    obtain ⟨g1, g2⟩ := hs s[j] (List.getElem_mem h1)
    have hno : hit l o s[j] = (fun _ => false) → m9_run_Edges_L4 s o (tab 12 (en l 3)) gx12 go3 n ((j + 1 : Nat) : Int) (tab 144 f) = m9_run_Edges_K5 gx12 go3 (tab 144 fun x => f x || (s.drop j).any fun p => hit l o p x) := by
      intro h
      rw [ih (j + 1) (by omega) f n (by omega)]
      congr 1
      apply tab_ext
      intro x _ _
      rw [drop_cons h1, List.any_cons, h, Bool.false_or]
    rw [m9_run_Edges_L4, m9_run_Edges_L4B, if_pos (by omega), idx_ok h1, bind1_some, clash1, bind1_some]
    by_cases c1 : cl o s[j] = true
    · rw [if_pos c1, tab_idxA ho.1 ho.2, bind1_some]
      by_cases c2 : en l 3 o.Tx = true
      · rw [if_pos c2, m9_run_Edges_K6, if_pos rfl, tab_idxA g1 g2, bind1_some]
        by_cases c3 : en l 3 s[j].Tx = true
        · rw [if_pos c3, rng_ok ho.1 (by omega), bind1_some, idx2_tab ho.1 ho.2 g1 g2, bind1_some, tab_upd _ (by omega) (by omega), bind1_some, isucc j (by omega), bind1_some, ih (j + 1) (by omega) _ n (by omega)]
          congr 1
          apply tab_ext
          intro x _ _
          rw [drop_cons h1, List.any_cons]
          unfold hit
          rw [c1, c2, c3]
          by_cases c4 : x = o.Tx * 12 + s[j].Tx
          · rw [if_pos (by omega)]; simp [c4]
          · rw [if_neg (by omega)]; simp [c4]
        · rw [if_neg c3, isucc j (by omega), bind1_some]
          exact hno (by funext x; simp [hit, c3])
      · rw [if_neg c2, m9_run_Edges_K6, if_neg ff, isucc j (by omega), bind1_some]
        exact hno (by funext x; simp [hit, c2])
    · rw [if_neg c1, m9_run_Edges_K6, if_neg ff, isucc j (by omega), bind1_some]
      exact hno (by funext x; simp [hit, c1])
theorem outerL3 (l : List TOp) (hg : Good l) : ∀ (r i : Nat), i + r = l.length → ∀ (f : Int → Bool) n, r < n →
    m9_run_Edges_L3 l (tab 12 (en l 3)) n (i : Int) (tab 144 f) = m9_run_Edges_K2 (tab 144 fun x => f x || tbl l (l.drop i) x) := by
  have hl := hg.len
  intro r
  induction r with
  | zero =>
    intro i hi f n hn
    obtain ⟨n, rfl⟩ := dec n hn
    rw [m9_run_Edges_L3, m9_run_Edges_L3B, if_neg (by omega), List.drop_eq_nil_of_le (by omega)]
    congr 1
    apply tab_ext
    intro x _ _
    simp [tbl]
  | succ r ih =>
    intro i hi f n hn
    obtain ⟨n, rfl⟩ := dec n (by omega)
    have h1 : i < l.length := by omega
    have hf := hg.fine i h1
    have h2 := innerL4 l hg l[i] ⟨hf.t0, hf.t1⟩ (l.drop (i + 1)) (fun p hp => by
      obtain ⟨j, hj, rfl⟩ := List.getElem_of_mem (List.mem_of_mem_drop hp)
      exact ⟨(hg.fine j hj).t0, (hg.fine j hj).t1⟩) (by rw [List.length_drop]; omega) (i : Int) (m9_run_Edges_L3 l (tab 12 (en l 3)) n) (l.drop (i + 1)).length 0 (by omega) f big (lt_big (by rw [List.length_drop]; omega))
    rw [show ((0 : Nat) : Int) = 0 from rfl, List.drop_zero] at h2
    rw [m9_run_Edges_L3, m9_run_Edges_L3B, if_pos (by omega), idx_ok h1, bind1_some, isucc i (by omega), bind1_some, cut_drop l (i + 1) (by omega), bind1_some, h2, m9_run_Edges_K5, isucc i (by omega), bind1_some, ih (i + 1) (by omega) _ n (by omega)]
    congr 1
    apply tab_ext
    intro x _ _
    rw [drop_cons h1, tbl, Bool.or_assoc]
/-- The edges from a on, from a, b on. -/
def rowE (T : Int → Int → Bool) (a : Int) : Nat → Nat → List TEdge
  | _, 0 => []
  | b, r + 1 => (if T a (b : Int) = true then [⟨a, (b : Int)⟩] else []) ++ rowE T a (b + 1) r
def allE (T : Int → Int → Bool) : Nat → Nat → List TEdge
  | _, 0 => []
  | a, r + 1 => rowE T (a : Int) 0 12 ++ allE T (a + 1) r
theorem rowE_len (T : Int → Int → Bool) (a : Int) : ∀ r b : Nat, (rowE T a b r).length ≤ r
  | 0, b => by simp [rowE]
  | r + 1, b => by
    have := rowE_len T a r (b + 1)
    rw [rowE, List.length_append]
    split <;> simp <;> omega
theorem allE_len (T : Int → Int → Bool) : ∀ r a : Nat, (allE T a r).length ≤ 12 * r
  | 0, a => by simp [allE]
  | r + 1, a => by
    have h1 := allE_len T r (a + 1)
    have h2 := rowE_len T (a : Int) 12 0
    rw [allE, List.length_append]
    omega
theorem rowE_mem {T : Int → Int → Bool} {a : Int} {e : TEdge} : ∀ {r b : Nat}, e ∈ rowE T a b r → e.From = a ∧ (b : Int) ≤ e.To ∧ e.To < b + r
  | 0, b, h => by simp [rowE] at h
  | r + 1, b, h => by
    rw [rowE, List.mem_append] at h
    rcases h with h | h
    · split at h
      · rw [List.mem_singleton] at h
        subst h
        exact ⟨rfl, by simp, by simp; omega⟩
      · cases h
    · obtain ⟨h1, h2, h3⟩ := rowE_mem h
      exact ⟨h1, by omega, by omega⟩
theorem allE_mem {T : Int → Int → Bool} {e : TEdge} : ∀ {r a : Nat}, e ∈ allE T a r → (a : Int) ≤ e.From ∧ e.From < a + r ∧ 0 ≤ e.To ∧ e.To < 12
  | 0, a, h => by simp [allE] at h
  | r + 1, a, h => by
    rw [allE, List.mem_append] at h
    rcases h with h | h
    · obtain ⟨h1, h2, h3⟩ := rowE_mem h
      exact ⟨by omega, by omega, by omega, by omega⟩
    · obtain ⟨h1, h2, h3, h4⟩ := allE_mem h
      exact ⟨by omega, by omega, h3, h4⟩
theorem rowE_ext {T U : Int → Int → Bool} {a : Int} : ∀ (r b : Nat), (∀ c : Int, (b : Int) ≤ c → c < b + r → T a c = U a c) → rowE T a b r = rowE U a b r
  | 0, b, _ => rfl
  | r + 1, b, h => by rw [rowE, rowE, h b (by omega) (by omega), rowE_ext r (b + 1) fun c h1 h2 => h c (by omega) (by omega)]
theorem allE_ext {T U : Int → Int → Bool} : ∀ (r a : Nat), (∀ c d : Int, (a : Int) ≤ c → c < a + r → 0 ≤ d → d < 12 → T c d = U c d) → allE T a r = allE U a r
  | 0, a, _ => rfl
  | r + 1, a, h => by
    rw [allE, allE, rowE_ext 12 0 fun c h1 h2 => h a c (by omega) (by omega) (by omega) (by omega), allE_ext r (a + 1) fun c d h1 h2 => h c d (by omega) (by omega)]
theorem listL2 (f : Int → Bool) (a : Nat) (ha : a < 12) (go1 : List TEdge → Int → Option (List TEdge × Int)) : ∀ (r b : Nat), b + r = 12 → ∀ acc : List TEdge, acc.length + r ≤ 10000 → ∀ n, r < n →
    m9_run_Edges_L2 (a : Int) (tab 144 f) go1 n acc (b : Int) = m9_run_Edges_K4 (a : Int) go1 (acc ++ rowE (fun a b => f (a * 12 + b)) (a : Int) b r) := by
  intro r
  induction r with
  | zero =>
    intro b hb acc hacc n hn
    obtain ⟨n, rfl⟩ := dec n hn
    rw [m9_run_Edges_L2, m9_run_Edges_L2B, if_neg (by omega), rowE, List.append_nil]
  | succ r ih =>
    intro b hb acc hacc n hn
    obtain ⟨n, rfl⟩ := dec n (by omega)
    rw [m9_run_Edges_L2, m9_run_Edges_L2B, if_pos (by omega), rng_ok (by omega) (by omega), bind1_some, idx2_tab (by omega) (by omega) (by omega) (by omega), bind1_some, rowE]
    by_cases c : f ((a : Int) * 12 + (b : Int)) = true
    · rw [if_pos c, if_pos c, app_ok (by simp; omega), bind1_some, isucc b (by omega), bind1_some, ih (b + 1) (by omega) _ (by simp; omega) n (by omega), List.append_assoc]
    · rw [if_neg c, if_neg c, isucc b (by omega), bind1_some, ih (b + 1) (by omega) _ (by omega) n (by omega), List.nil_append]
theorem listL1 (f : Int → Bool) : ∀ (r a : Nat), a + r = 12 → ∀ acc : List TEdge, acc.length ≤ 12 * a → ∀ n, r < n →
    m9_run_Edges_L1 (tab 144 f) n acc (a : Int) = some (acc ++ allE (fun a b => f (a * 12 + b)) a r, 0) := by
  intro r
  induction r with
  | zero =>
    intro a ha acc hacc n hn
    obtain ⟨n, rfl⟩ := dec n hn
    rw [m9_run_Edges_L1, m9_run_Edges_L1B, if_neg (by omega), m9_run_Edges_K3, allE, List.append_nil]
  | succ r ih =>
    intro a ha acc hacc n hn
    obtain ⟨n, rfl⟩ := dec n (by omega)
    have h2 := listL2 f a (by omega) (m9_run_Edges_L1 (tab 144 f) n) 12 0 (by omega) acc (by omega) big (lt_big (by omega))
    have h4 : (acc ++ rowE (fun a b => f (a * 12 + b)) (a : Int) 0 12).length ≤ 12 * (a + 1) := by
      have h3 := rowE_len (fun a b => f (a * 12 + b)) (a : Int) 12 0
      rw [List.length_append]; omega
    rw [show ((0 : Nat) : Int) = 0 from rfl] at h2
    rw [m9_run_Edges_L1, m9_run_Edges_L1B, if_pos (by omega), h2, m9_run_Edges_K4, isucc a (by omega), bind1_some, ih (a + 1) (by omega) _ h4 n (by omega), allE, List.append_assoc]
def edT (l : List TOp) (a b : Int) : Bool := tbl l l (a * 12 + b)
theorem edges_own (l : List TOp) (hg : Good l) : m9_run_Edges_K1 l = some (allE (edT l) 0 12, 0) := by
  have h1 := outerL3 l hg l.length 0 (by omega) (fun _ => false) big (lt_big (by have := hg.len; omega))
  have h2 := listL1 (fun x => tbl l l x) 12 0 (by omega) [] (by simp) big (lt_big (by omega))
  have e : (tab 144 fun x => false || tbl l (l.drop 0) x) = tab 144 fun x => tbl l l x := rfl
  rw [e, show ((0 : Nat) : Int) = 0 from rfl] at h1
  rw [show ((0 : Nat) : Int) = 0 from rfl, List.nil_append] at h2
  rw [m9_run_Edges_K1, ended_eq l hg, bind1_some, arrN_ok (by simp), bind1_some, arrN_ok (tab_length ..), bind1_some, tab_repl, h1, m9_run_Edges_K2, h2]
  rfl

/-! ### The same, of the document -/
def meet (a b : Int) (o p : TOp) : Bool := decide (o.Tx = a) && decide (p.Tx = b) && cl o p
def mee (a b : Int) : List TOp → Bool
  | [] => false
  | o :: r => (r.any fun p => meet a b o p) || mee a b r
def Kd (l : List TOp) : Prop := ∀ o ∈ l, 1 ≤ o.Kind ∧ o.Kind ≤ 4
theorem good_kd {l : List TOp} (hg : Good l) : Kd l := fun o ho => by
  obtain ⟨j, hj, rfl⟩ := List.getElem_of_mem ho
  exact ⟨(hg.fine j hj).k0, (hg.fine j hj).k1⟩
theorem refL4 (s : List TOp) (hs : Kd s) (hsl : s.length ≤ 200) (o : TOp) (ho : 1 ≤ o.Kind ∧ o.Kind ≤ 4) (a b : Int) (gx15 : Int) (go3 : Bool → Int → Option (List TEdge)) : ∀ (r j : Nat), j + r = s.length → ∀ (q : Bool) n, r < n →
    m16_quirref_Edges_L4 s o a b gx15 go3 n q (j : Int) = m16_quirref_Edges_K6 gx15 go3 (q || (s.drop j).any fun p => meet a b o p) := by
  intro r
  induction r with
  | zero =>
    intro j hj q n hn
    obtain ⟨n, rfl⟩ := dec n hn
    rw [m16_quirref_Edges_L4, m16_quirref_Edges_L4B, if_neg (by omega), List.drop_eq_nil_of_le (by omega)]
    simp
  | succ r ih =>
    intro j hj q n hn
    obtain ⟨n, rfl⟩ := dec n (by omega)
    have h1 : j < s.length := by omega
    have hk := hs s[j] (List.getElem_mem h1)
    rw [m16_quirref_Edges_L4, m16_quirref_Edges_L4B, if_pos (by omega), idx_ok h1, bind1_some, drop_cons h1, List.any_cons]
    cases q with
    | true => rw [if_pos rfl, m16_quirref_Edges_K7, if_pos rfl, isucc j (by omega), bind1_some, ih (j + 1) (by omega) true n (by omega), Bool.true_or, Bool.true_or]
    | false =>
      rw [if_neg ff, Bool.false_or]
      have hno : meet a b o s[j] = false → m16_quirref_Edges_K7 (j : Int) (m16_quirref_Edges_L4 s o a b gx15 go3 n) false = m16_quirref_Edges_K6 gx15 go3 (meet a b o s[j] || (s.drop (j + 1)).any fun p => meet a b o p) := by
        intro h
        rw [m16_quirref_Edges_K7, if_neg ff, isucc j (by omega), bind1_some, ih (j + 1) (by omega) false n (by omega), h]
      by_cases c1 : o.Tx = a
      · by_cases c2 : s[j].Tx = b
        · rw [if_pos c1, if_pos c2, clash2 o s[j] ho hk, bind1_some]
          by_cases c3 : cl o s[j] = true
          · rw [if_pos c3, m16_quirref_Edges_K7, if_pos rfl, isucc j (by omega), bind1_some, ih (j + 1) (by omega) true n (by omega)]
            simp [meet, c1, c2, c3]
          · rw [if_neg c3]; exact hno (by simp [meet, c3])
        · rw [if_pos c1, if_neg c2]; exact hno (by simp [meet, c2])
      · rw [if_neg c1]; exact hno (by simp [meet, c1])
theorem refL3 (l : List TOp) (hk : Kd l) (hl : l.length ≤ 200) (a b : Int) (acc : List TEdge) (go2 : List TEdge → Int → Option (List TEdge)) : ∀ (r i : Nat), i + r = l.length → ∀ (q : Bool) n, r < n →
    m16_quirref_Edges_L3 l a b acc go2 n q (i : Int) = m16_quirref_Edges_K5 acc a b go2 (q || mee a b (l.drop i)) := by
  intro r
  induction r with
  | zero =>
    intro i hi q n hn
    obtain ⟨n, rfl⟩ := dec n hn
    rw [m16_quirref_Edges_L3, m16_quirref_Edges_L3B, if_neg (by omega), List.drop_eq_nil_of_le (by omega)]
    simp [mee]
  | succ r ih =>
    intro i hi q n hn
    obtain ⟨n, rfl⟩ := dec n (by omega)
    have h1 : i < l.length := by omega
    have h2 := refL4 (l.drop (i + 1)) (fun o ho => hk o (List.mem_of_mem_drop ho)) (by rw [List.length_drop]; omega) l[i] (hk l[i] (List.getElem_mem h1)) a b (i : Int) (m16_quirref_Edges_L3 l a b acc go2 n) (l.drop (i + 1)).length 0 (by omega) q big (lt_big (by rw [List.length_drop]; omega))
    rw [show ((0 : Nat) : Int) = 0 from rfl, List.drop_zero] at h2
    rw [m16_quirref_Edges_L3, m16_quirref_Edges_L3B, if_pos (by omega), idx_ok h1, bind1_some, isucc i (by omega), bind1_some, cut_drop l (i + 1) (by omega), bind1_some, h2, m16_quirref_Edges_K6, drop_cons h1, mee, ← Bool.or_assoc, isucc i (by omega), bind1_some, bind1_some]
    generalize (q || (l.drop (i + 1)).any fun p => meet a b l[i] p) = q'
    cases q' with
    | true => rw [if_pos rfl]; exact ih (i + 1) (by omega) true n (by omega)
    | false => rw [if_neg ff]; exact ih (i + 1) (by omega) false n (by omega)
def edR (l : List TOp) (a b : Int) : Bool := !decide (a = b) && en l 3 a && en l 3 b && mee a b l
theorem refL2 (l : List TOp) (hg : Good l) (a : Nat) (go1 : List TEdge → Int → Option (List TEdge)) : ∀ (r b : Nat), b + r = 12 → ∀ acc : List TEdge, acc.length + r ≤ 10000 → ∀ n, r < n →
    m16_quirref_Edges_L2 (a : Int) l go1 n acc (b : Int) = m16_quirref_Edges_K2 (a : Int) go1 (acc ++ rowE (edR l) (a : Int) b r) := by
  have hl := hg.len
  intro r
  induction r with
  | zero =>
    intro b hb acc hacc n hn
    obtain ⟨n, rfl⟩ := dec n hn
    rw [m16_quirref_Edges_L2, m16_quirref_Edges_L2B, if_neg (by omega), rowE, List.append_nil]
  | succ r ih =>
    intro b hb acc hacc n hn
    obtain ⟨n, rfl⟩ := dec n (by omega)
    have hno : edR l a b = false → m16_quirref_Edges_K3 (b : Int) (m16_quirref_Edges_L2 (a : Int) l go1 n) acc = m16_quirref_Edges_K2 (a : Int) go1 (acc ++ ((if edR l (a : Int) (b : Int) = true then [⟨(a : Int), (b : Int)⟩] else []) ++ rowE (edR l) (a : Int) (b + 1) r)) := by
      intro h
      rw [m16_quirref_Edges_K3, isucc b (by omega), bind1_some, ih (b + 1) (by omega) acc (by omega) n (by omega), h, if_neg ff, List.nil_append]
    rw [m16_quirref_Edges_L2, m16_quirref_Edges_L2B, if_pos (by omega), rowE]
    by_cases c1 : (a : Int) = (b : Int)
    · rw [if_pos c1, m16_quirref_Edges_K8, if_pos rfl]
      exact hno (by simp [edR, c1])
    · rw [if_neg c1, has_eq l _ _ (by omega), bind1_some]
      by_cases c2 : en l 3 a = true
      · rw [if_pos (show decide _ = true from c2), m16_quirref_Edges_K8, if_neg ff, has_eq l _ _ (by omega), bind1_some]
        by_cases c3 : en l 3 b = true
        · have h3 := refL3 l (good_kd hg) hl (a : Int) (b : Int) acc (m16_quirref_Edges_L2 (a : Int) l go1 n) l.length 0 (by omega) false big (lt_big (by omega))
          rw [show ((0 : Nat) : Int) = 0 from rfl, List.drop_zero, Bool.false_or] at h3
          rw [if_pos (show decide _ = true from c3), m16_quirref_Edges_K4, h3, m16_quirref_Edges_K5]
          have he : edR l a b = mee a b l := by
            unfold edR
            rw [c2, c3, decide_eq_false c1]
            simp
          by_cases c4 : mee a b l = true
          · rw [if_pos c4, app_ok (by simp; omega), bind1_some, m16_quirref_Edges_K3, isucc b (by omega), bind1_some, ih (b + 1) (by omega) _ (by simp; omega) n (by omega), he, if_pos c4, List.append_assoc]
          · rw [if_neg c4]; exact hno (by rw [he]; simpa using c4)
        · rw [if_neg (show ¬decide _ = true from c3)]
          exact hno (by simp [edR, c3])
      · rw [if_neg (show ¬decide _ = true from c2), m16_quirref_Edges_K8, if_pos rfl]
        exact hno (by simp [edR, c2])
theorem refL1 (l : List TOp) (hg : Good l) : ∀ (r a : Nat), a + r = 12 → ∀ acc : List TEdge, acc.length ≤ 12 * a → ∀ n, r < n →
    m16_quirref_Edges_L1 l n acc (a : Int) = some (acc ++ allE (edR l) a r) := by
  intro r
  induction r with
  | zero =>
    intro a ha acc hacc n hn
    obtain ⟨n, rfl⟩ := dec n hn
    rw [m16_quirref_Edges_L1, m16_quirref_Edges_L1B, if_neg (by omega), m16_quirref_Edges_K1, allE, List.append_nil]
  | succ r ih =>
    intro a ha acc hacc n hn
    obtain ⟨n, rfl⟩ := dec n (by omega)
    have h2 := refL2 l hg a (m16_quirref_Edges_L1 l n) 12 0 (by omega) acc (by omega) big (lt_big (by omega))
    have h4 : (acc ++ rowE (edR l) (a : Int) 0 12).length ≤ 12 * (a + 1) := by
      have h3 := rowE_len (edR l) (a : Int) 12 0
      rw [List.length_append]; omega
    rw [show ((0 : Nat) : Int) = 0 from rfl] at h2
    rw [m16_quirref_Edges_L1, m16_quirref_Edges_L1B, if_pos (by omega), h2, m16_quirref_Edges_K2, isucc a (by omega), bind1_some, ih (a + 1) (by omega) _ h4 n (by omega), allE, List.append_assoc]
theorem hit_meet {l : List TOp} {a b : Int} (ha : 0 ≤ a ∧ a < 12) (hb : 0 ≤ b ∧ b < 12) {o p : TOp} (ho : 0 ≤ o.Tx ∧ o.Tx < 12) (hp : 0 ≤ p.Tx ∧ p.Tx < 12) : hit l o p (a * 12 + b) = (en l 3 a && en l 3 b && meet a b o p) := by
  unfold hit meet
  by_cases c : a * 12 + b = o.Tx * 12 + p.Tx
  · have h1 : a = o.Tx := by omega
    have h2 : b = p.Tx := by omega
    rw [h1, h2]
    cases cl o p <;> simp
  · have : ¬(o.Tx = a ∧ p.Tx = b) := by rintro ⟨rfl, rfl⟩; exact c rfl
    rw [decide_eq_false c]
    by_cases c1 : o.Tx = a
    · have c2 : ¬p.Tx = b := fun h => this ⟨c1, h⟩
      simp [c2]
    · simp [c1]
theorem tbl_mee {l : List TOp} {a b : Int} (ha : 0 ≤ a ∧ a < 12) (hb : 0 ≤ b ∧ b < 12) : ∀ s : List TOp, (∀ o ∈ s, 0 ≤ o.Tx ∧ o.Tx < 12) → tbl l s (a * 12 + b) = (en l 3 a && en l 3 b && mee a b s)
  | [], _ => by simp [tbl, mee]
  | o :: s, h => by
    rw [tbl, mee, tbl_mee ha hb s fun p hp => h p (by simp [hp])]
    have : (s.any fun p => hit l o p (a * 12 + b)) = (en l 3 a && en l 3 b && s.any fun p => meet a b o p) := by
      have key : ∀ t : List TOp, (∀ p ∈ t, 0 ≤ p.Tx ∧ p.Tx < 12) → (t.any fun p => hit l o p (a * 12 + b)) = (en l 3 a && en l 3 b && t.any fun p => meet a b o p) := by
        intro t
        induction t with
        | nil => intro _; simp
        | cons p t ih =>
          intro ht
          rw [List.any_cons, List.any_cons, ih fun q hq => ht q (by simp [hq]), hit_meet ha hb (h o (by simp)) (ht p (by simp))]
          cases en l 3 a <;> cases en l 3 b <;> simp
      exact key s fun p hp => h p (by simp [hp])
    rw [this]
    cases en l 3 a <;> cases en l 3 b <;> simp
theorem mee_ne {a b : Int} (hab : a = b) : ∀ s : List TOp, mee a b s = false
  | [] => rfl
  | o :: s => by
    rw [mee, mee_ne hab s, Bool.or_false]
    rw [List.any_eq_false]
    intro p _
    unfold meet cl
    by_cases c1 : o.Tx = a
    · by_cases c2 : p.Tx = b
      · have : o.Tx = p.Tx := by rw [c1, c2, hab]
        simp [this]
      · simp [c2]
    · simp [c1]
theorem edT_edR {l : List TOp} (hg : Good l) {a b : Int} (ha : 0 ≤ a ∧ a < 12) (hb : 0 ≤ b ∧ b < 12) : edT l a b = edR l a b := by
  unfold edT edR
  rw [tbl_mee ha hb l fun o ho => by
    obtain ⟨j, hj, rfl⟩ := List.getElem_of_mem ho
    exact ⟨(hg.fine j hj).t0, (hg.fine j hj).t1⟩]
  by_cases c : a = b
  · rw [mee_ne c]; simp
  · rw [decide_eq_false c]; simp
def eds (l : List TOp) : List TEdge := allE (edR l) 0 12
theorem edges_own' (l : List TOp) (hg : Good l) : m9_run_Edges_K1 l = some (eds l, 0) := by
  rw [edges_own l hg, allE_ext 12 0 fun c d h1 h2 h3 h4 => edT_edR hg (by omega) (by omega)]
  rfl
theorem edges_ref (l : List TOp) (hg : Good l) : m16_quirref_Edges l = some (eds l) := by
  have h := refL1 l hg 12 0 (by omega) [] (by simp) big (lt_big (by omega))
  rw [show ((0 : Nat) : Int) = 0 from rfl, List.nil_append] at h
  rw [m16_quirref_Edges, h]
  rfl
theorem eds_len (l : List TOp) : (eds l).length ≤ 144 := allE_len (edR l) 12 0
theorem eds_in (l : List TOp) : InR 12 (eds l) := fun e he => by
  obtain ⟨h1, h2, h3, h4⟩ := allE_mem he
  exact ⟨by omega, by omega, h3, h4⟩
end Go.Proofs.Ytkhlapdkomnldaa
