/-
  Faults and Serial of a story; and the law.
  Conditions: the reads of each tale are at most 1048576.
-/
import Derived.Test.YtkhlapdkomnldaaOsE
namespace Go.Proofs.Ytkhlapdkomnldaa
open Go.S Go.Sort
set_option linter.unusedVariables false
set_option linter.unusedSimpArgs false

/-! ### Edges of some kinds -/
def eo : List TDep → Int → List TEdge
  | [], _ => []
  | d :: r, k => (if d.Kind ≤ k then [⟨d.From, d.To⟩] else []) ++ eo r k
theorem eo_len (k : Int) : ∀ l : List TDep, (eo l k).length ≤ l.length
  | [] => by simp [eo]
  | d :: r => by
    have := eo_len k r
    rw [eo, List.length_append, List.length_cons]
    split <;> simp <;> omega
theorem eo_in (k : Int) : ∀ l : List TDep, (∀ x ∈ l, 0 ≤ x.From ∧ x.From < 12 ∧ 0 ≤ x.To ∧ x.To < 12) → InR 12 (eo l k)
  | [], _ => fun e he => by simp [eo] at he
  | d :: r, h => fun e he => by
    rw [eo, List.mem_append] at he
    rcases he with he | he
    · split at he
      · rw [List.mem_singleton] at he
        subst he
        obtain ⟨h1, h2, h3, h4⟩ := h d (by simp)
        exact ⟨h1, by omega, h3, by omega⟩
      · cases he
    · exact eo_in k r (fun x hx => h x (by simp [hx])) e he
theorem loopL1 (l : List TDep) (hl : l.length ≤ 1000) (k : Int) : ∀ (r i : Nat), i + r = l.length → ∀ acc : List TEdge, acc.length ≤ i → ∀ n, r < n →
    m63_order_loop_L1 l k n acc (i : Int) = m63_order_loop_K1 (acc ++ eo (l.drop i) k) := by
  intro r
  induction r with
  | zero =>
    intro i hi acc hacc n hn
    obtain ⟨n, rfl⟩ := dec n hn
    rw [m63_order_loop_L1, m63_order_loop_L1B, if_neg (by omega), List.drop_eq_nil_of_le (by omega), eo, List.append_nil]
  | succ r ih =>
    intro i hi acc hacc n hn
    obtain ⟨n, rfl⟩ := dec n (by omega)
    have h1 : i < l.length := by omega
    rw [m63_order_loop_L1, m63_order_loop_L1B, if_pos (by omega), idx_ok h1, bind1_some, drop_cons h1, eo]
    by_cases c : l[i].Kind ≤ k
    · rw [if_pos c, if_pos c, app_ok (by simp; omega), bind1_some, isucc i (by omega), bind1_some, ih (i + 1) (by omega) _ (by simp; omega) n (by omega), List.append_assoc]
    · rw [if_neg c, if_neg c, isucc i (by omega), bind1_some, ih (i + 1) (by omega) _ (by omega) n (by omega), List.nil_append]
theorem edgesOfL1 (l : List TDep) (hl : l.length ≤ 1000) (k : Int) : ∀ (r i : Nat), i + r = l.length → ∀ acc : List TEdge, acc.length ≤ i → ∀ n, r < n →
    m67_quirref_edgesOf_L1 l k n acc (i : Int) = some (acc ++ eo (l.drop i) k) := by
  intro r
  induction r with
  | zero =>
    intro i hi acc hacc n hn
    obtain ⟨n, rfl⟩ := dec n hn
    rw [m67_quirref_edgesOf_L1, m67_quirref_edgesOf_L1B, if_neg (by omega), m67_quirref_edgesOf_K1, List.drop_eq_nil_of_le (by omega), eo, List.append_nil]
  | succ r ih =>
    intro i hi acc hacc n hn
    obtain ⟨n, rfl⟩ := dec n (by omega)
    have h1 : i < l.length := by omega
    rw [m67_quirref_edgesOf_L1, m67_quirref_edgesOf_L1B, if_pos (by omega), idx_ok h1, bind1_some, drop_cons h1, eo]
    by_cases c : l[i].Kind ≤ k
    · rw [if_pos c, if_pos c, app_ok (by simp; omega), bind1_some, isucc i (by omega), bind1_some, ih (i + 1) (by omega) _ (by simp; omega) n (by omega), List.append_assoc]
    · rw [if_neg c, if_neg c, isucc i (by omega), bind1_some, ih (i + 1) (by omega) _ (by omega) n (by omega), List.nil_append]
theorem serL5 (s : TStory) (l : List TDep) (hl : l.length ≤ 1000) (hk : ∀ x ∈ l, x.Kind < 4) : ∀ (r i : Nat), i + r = l.length → ∀ acc : List TEdge, acc.length ≤ i → ∀ n, r < n →
    m21_order_Serial_L5 l s n acc (i : Int) = m21_order_Serial_K2 s (acc ++ eo (l.drop i) 3) := by
  intro r
  induction r with
  | zero =>
    intro i hi acc hacc n hn
    obtain ⟨n, rfl⟩ := dec n hn
    rw [m21_order_Serial_L5, m21_order_Serial_L5B, if_neg (by omega), List.drop_eq_nil_of_le (by omega), eo, List.append_nil]
  | succ r ih =>
    intro i hi acc hacc n hn
    obtain ⟨n, rfl⟩ := dec n (by omega)
    have h1 : i < l.length := by omega
    have h2 := hk _ (List.getElem_mem h1)
    rw [m21_order_Serial_L5, m21_order_Serial_L5B, if_pos (by omega), idx_ok h1, bind1_some, drop_cons h1, eo, if_pos (by omega), app_ok (by simp; omega), bind1_some, isucc i (by omega), bind1_some, ih (i + 1) (by omega) _ (by simp; omega) n (by omega), List.append_assoc]
/-- An order by the edges of some kinds. -/
theorem ord_k (s : TStory) (k : Int) : ∃ z ok, m42_graph_Order 12 (eo (depL s) k) = some (z, if ok = true then 0 else 11) ∧ m46_quirref_Order 12 (eo (depL s) k) = some (z, ok) ∧ (∀ x ∈ z, 0 ≤ x ∧ x < 12) ∧ z.length ≤ 12 ∧ (ok = false → z = []) := by
  have h1 := depL_len s
  have h2 := eo_len k (depL s)
  obtain ⟨z, ok, q⟩ := order_eq 12 (by omega) (eo (depL s) k) (by omega) (eo_in k _ fun x hx => by
    obtain ⟨q1, q2, q3, q4, _⟩ := depL_in s x hx
    exact ⟨q1, q2, q3, q4⟩)
  exact ⟨z, ok, q⟩
theorem loop_eq (s : TStory) (k : Int) {z : List Int} {ok : Bool} (h : m42_graph_Order 12 (eo (depL s) k) = some (z, if ok = true then 0 else 11)) : m63_order_loop (depL s) k = some (!ok) := by
  have h1 := depL_len s
  have h2 := loopL1 (depL s) (by omega) k (depL s).length 0 (by omega) [] (by simp) big (lt_big (by omega))
  rw [show ((0 : Nat) : Int) = 0 from rfl, List.drop_zero, List.nil_append] at h2
  rw [m63_order_loop, h2, m63_order_loop_K1, h, bind2_some]
  cases ok <;> simp
theorem edgesOf_eq (s : TStory) (hgs : GoodS s) (hlim : Lim s) (k : Int) : m67_quirref_edgesOf s k = some (eo (depL s) k) := by
  have h1 := depL_len s
  have h2 := edgesOfL1 (depL s) (by omega) k (depL s).length 0 (by omega) [] (by simp) big (lt_big (by omega))
  rw [show ((0 : Nat) : Int) = 0 from rfl, List.drop_zero, List.nil_append] at h2
  rw [m67_quirref_edgesOf, deps_ref s hgs hlim, bind1_some, h2]

/-! ### Faults -/
theorem faults_eq (s : TStory) (hgs : GoodS s) (hlim : Lim s) (hc : m22_order_Check s = some 0) : ∃ f, m20_order_Faults s = some (f, 0) ∧ m26_quirref_Faults s = some f := by
  obtain ⟨z1, o1, a1, b1, _⟩ := ord_k s 1
  obtain ⟨z2, o2, a2, b2, _⟩ := ord_k s 2
  obtain ⟨z3, o3, a3, b3, _⟩ := ord_k s 3
  have hD : m19_order_Deps s = some (depL s, 0) := by rw [m19_order_Deps, hc, bind1_some, if_neg (by simp), deps_own' s hgs hlim]
  refine ⟨⟨!o1, !o2, !o3⟩, ?_, ?_⟩
  · rw [m20_order_Faults, hD, bind2_some, if_neg (by simp), loop_eq s 1 a1, bind1_some, loop_eq s 2 a2, bind1_some, loop_eq s 3 a3, bind1_some]
  · obtain ⟨n, hn⟩ : ∃ n, big = n + 4 := ⟨1180591620717411303420, rfl⟩
    have i0 : i64 ((0 : Int) + 1) = some 1 := rfl
    have i1 : i64 ((1 : Int) + 1) = some 2 := rfl
    have i2 : i64 ((2 : Int) + 1) = some 3 := rfl
    have e1 := edgesOf_eq s hgs hlim 1
    have e2 := edgesOf_eq s hgs hlim 2
    have e3 := edgesOf_eq s hgs hlim 3
    rw [m26_quirref_Faults, hn, m26_quirref_Faults_L1, m26_quirref_Faults_L1B, if_pos (by decide), i0, bind1_some, e1, bind1_some, b1, bind2_some, show idxA 3 (List.replicate 3 (false : Bool)) 0 = some false from rfl, bind1_some, show upd (List.replicate 3 (false : Bool)) 0 (!o1) = some [!o1, false, false] from rfl, bind1_some, bind1_some,
      m26_quirref_Faults_L1, m26_quirref_Faults_L1B, if_pos (by decide), i1, bind1_some, e2, bind1_some, b2, bind2_some, show idxA 3 [!o1, false, false] 1 = some false from rfl, bind1_some, show upd [!o1, false, false] 1 (!o2) = some [!o1, !o2, false] from rfl, bind1_some, bind1_some,
      m26_quirref_Faults_L1, m26_quirref_Faults_L1B, if_pos (by decide), i2, bind1_some, e3, bind1_some, b3, bind2_some, show idxA 3 [!o1, !o2, false] 2 = some false from rfl, bind1_some, show upd [!o1, !o2, false] 2 (!o3) = some [!o1, !o2, !o3] from rfl, bind1_some, bind1_some,
      m26_quirref_Faults_L1, m26_quirref_Faults_L1B, if_neg (by decide), m26_quirref_Faults_K1]
    rfl

/-! ### Serial -/
theorem sT4 (s : TStory) (hs : s.Tales.length ≤ 12) (w : Int) (l6 : List Int) (gx15 : Int) (go3 : Int → Option (List Int × Int)) : ∀ (r k : Nat), k + r = s.Tales.length → ∀ n, r < n →
    m21_order_Serial_L4 s w l6 gx15 go3 n (k : Int) = m21_order_Serial_K16 l6 s gx15 go3 ((s.Tales.drop k).any fun t => decide (t.Tx = w)) := by
  intro r
  induction r with
  | zero =>
    intro k hk n hn
    obtain ⟨n, rfl⟩ := dec n hn
    rw [m21_order_Serial_L4, m21_order_Serial_L4B, if_neg (by omega), m21_order_Serial_K18, m21_order_Serial_K17, List.drop_eq_nil_of_le (by omega)]
    rfl
  | succ r ih =>
    intro k hk n hn
    obtain ⟨n, rfl⟩ := dec n (by omega)
    have h1 : k < s.Tales.length := by omega
    rw [m21_order_Serial_L4, m21_order_Serial_L4B, if_pos (by omega), idx_ok h1, bind1_some, m21_order_Serial_K19, anyT_cons h1]
    by_cases c : s.Tales[k].Tx = w
    · rw [if_pos (by simp [c]), m21_order_Serial_K17, decide_eq_true (show (0 : Int) ≤ k by omega), decide_eq_true c, Bool.true_or]
    · rw [if_neg (by simp [c]), isucc k (by omega), bind1_some, ih (k + 1) (by omega) n (by omega), decide_eq_false c, Bool.false_or]
theorem sT2 (s : TStory) (hs : s.Tales.length ≤ 12) (w : Int) (gx10 : Int) (go1 : List Int → Int → Int → Option (List Int × Int)) (gl8 : List Int) (gx9 : Int) : ∀ (r k : Nat), k + r = s.Tales.length → ∀ n, r < n →
    m21_order_Serial_L2 s w gx10 go1 gl8 gx9 n (k : Int) = m21_order_Serial_K10 gx10 go1 gl8 gx9 w ((s.Tales.drop k).any fun t => decide (t.Tx = w)) := by
  intro r
  induction r with
  | zero =>
    intro k hk n hn
    obtain ⟨n, rfl⟩ := dec n hn
    rw [m21_order_Serial_L2, m21_order_Serial_L2B, if_neg (by omega), m21_order_Serial_K12, m21_order_Serial_K11, List.drop_eq_nil_of_le (by omega)]
    rfl
  | succ r ih =>
    intro k hk n hn
    obtain ⟨n, rfl⟩ := dec n (by omega)
    have h1 : k < s.Tales.length := by omega
    rw [m21_order_Serial_L2, m21_order_Serial_L2B, if_pos (by omega), idx_ok h1, bind1_some, m21_order_Serial_K13, anyT_cons h1]
    by_cases c : s.Tales[k].Tx = w
    · rw [if_pos (by simp [c]), m21_order_Serial_K11, decide_eq_true (show (0 : Int) ≤ k by omega), decide_eq_true c, Bool.true_or]
    · rw [if_neg (by simp [c]), isucc k (by omega), bind1_some, ih (k + 1) (by omega) n (by omega), decide_eq_false c, Bool.false_or]
theorem rT2 (s : TStory) (hs : s.Tales.length ≤ 12) (w : Int) (gl6 : List Int) (gx7 : Int) (go1 : List Int → Int → Option (List Int × Bool)) : ∀ (r k : Nat), k + r = s.Tales.length → ∀ n, r < n →
    m23_quirref_StorySerial_L2 s w gl6 gx7 go1 n (k : Int) = m23_quirref_StorySerial_K4 gl6 w gx7 go1 ((s.Tales.drop k).any fun t => decide (t.Tx = w)) := by
  intro r
  induction r with
  | zero =>
    intro k hk n hn
    obtain ⟨n, rfl⟩ := dec n hn
    rw [m23_quirref_StorySerial_L2, m23_quirref_StorySerial_L2B, if_neg (by omega), m23_quirref_StorySerial_K6, m23_quirref_StorySerial_K5, List.drop_eq_nil_of_le (by omega)]
    rfl
  | succ r ih =>
    intro k hk n hn
    obtain ⟨n, rfl⟩ := dec n (by omega)
    have h1 : k < s.Tales.length := by omega
    rw [m23_quirref_StorySerial_L2, m23_quirref_StorySerial_L2B, if_pos (by omega), idx_ok h1, bind1_some, m23_quirref_StorySerial_K7, anyT_cons h1]
    by_cases c : s.Tales[k].Tx = w
    · rw [if_pos (by simp [c]), m23_quirref_StorySerial_K5, decide_eq_true (show (0 : Int) ≤ k by omega), decide_eq_true c, Bool.true_or]
    · rw [if_neg (by simp [c]), isucc k (by omega), bind1_some, ih (k + 1) (by omega) n (by omega), decide_eq_false c, Bool.false_or]
theorem drop_at {α : Type} {g x9 : List α} {j : Nat} (h1 : j < x9.length) (h2 : j < g.length) (hgd : g.drop j = x9.drop j) : g[j] = x9[j] ∧ g.drop (j + 1) = x9.drop (j + 1) := by
  refine ⟨?_, by rw [← List.drop_drop, ← List.drop_drop, hgd]⟩
  have := congrArg (fun q => q[0]?) hgd
  simp only [List.getElem?_drop, Nat.add_zero] at this
  rw [List.getElem?_eq_getElem h1, List.getElem?_eq_getElem h2, Option.some.injEq] at this
  exact this
theorem odel1 (s : TStory) (hs : s.Tales.length ≤ 12) (x9 : List Int) (hlen : x9.length ≤ 200) : ∀ (r j : Nat), j + r = x9.length → ∀ (g : List Int) (i : Nat), i ≤ j → g.length = x9.length → g.take i = (x9.take j).filter (isT s) → g.drop j = x9.drop j → ∀ n, r < n →
    m21_order_Serial_L1 s n g (i : Int) (j : Int) = some (x9.filter (isT s), 0) := by
  intro r
  induction r with
  | zero =>
    intro j hj g i hij hg hgi hgd n hn
    obtain ⟨n, rfl⟩ := dec n hn
    have hlt : (g.take i).length = i := by rw [List.length_take]; omega
    rw [m21_order_Serial_L1, m21_order_Serial_L1B, if_neg (by omega), m21_order_Serial_K7, cut_drop g i (by omega), bind1_some, clr_ok g i 0 (by omega), bind1_some, cut_take _ i (by rw [List.length_append]; omega), bind1_some, List.take_left' hlt, hgi, List.take_of_length_le (by omega), m21_order_Serial_K4]
  | succ r ih =>
    intro j hj g i hij hg hgi hgd n hn
    obtain ⟨n, rfl⟩ := dec n (by omega)
    have h1 : j < x9.length := by omega
    have h2 : j < g.length := by omega
    obtain ⟨hgj, hgd'⟩ := drop_at h1 h2 hgd
    have h3 := sT2 s hs x9[j] (j : Int) (m21_order_Serial_L1 s n) g (i : Int) s.Tales.length 0 (by omega) big (lt_big (by omega))
    rw [show ((0 : Nat) : Int) = 0 from rfl, List.drop_zero] at h3
    change _ = m21_order_Serial_K10 (j : Int) _ g (i : Int) x9[j] (isT s x9[j]) at h3
    rw [m21_order_Serial_L1, m21_order_Serial_L1B, if_pos (by omega), m21_order_Serial_K8, idx_ok h2, bind1_some, hgj, h3, m21_order_Serial_K10, m21_order_Serial_K9]
    by_cases c : isT s x9[j] = true
    · have hil : i < g.length := by omega
      rw [if_neg (by simp [c]), idx_ok hil, bind1_some, upd_ok _ hil, bind1_some, isucc i (by omega), bind1_some, isucc j (by omega), bind1_some]
      refine ih (j + 1) (by omega) _ (i + 1) (by omega) (by simpa using hg) ?_ ?_ n (by omega)
      · rw [take_snoc (by simpa using hil), List.getElem_set_self, List.take_set_of_le (Nat.le_refl _), hgi, take_snoc h1, List.filter_append]
        simp [c]
      · rw [List.drop_set_of_lt (by omega)]
        exact hgd'
    · rw [if_pos (by simp [c]), isucc j (by omega), bind1_some]
      refine ih (j + 1) (by omega) g i (by omega) hg ?_ hgd' n (by omega)
      rw [hgi, take_snoc h1, List.filter_append]
      simp [c]
theorem odel (s : TStory) (hs : s.Tales.length ≤ 12) (x9 : List Int) (hlen : x9.length ≤ 200) : ∀ (r i : Nat), i + r = x9.length → (∀ v ∈ x9.take i, isT s v = true) → ∀ n, r < n →
    m21_order_Serial_L3 x9 s n (i : Int) = some (x9.filter (isT s), 0) := by
  intro r
  induction r with
  | zero =>
    intro i hi hall n hn
    obtain ⟨n, rfl⟩ := dec n hn
    rw [m21_order_Serial_L3, m21_order_Serial_L3B, if_neg (by omega), m21_order_Serial_K14, m21_order_Serial_K5, if_pos rfl, m21_order_Serial_K4]
    rw [List.take_of_length_le (by omega)] at hall
    rw [List.filter_eq_self.2 hall]
  | succ r ih =>
    intro i hi hall n hn
    obtain ⟨n, rfl⟩ := dec n (by omega)
    have h1 : i < x9.length := by omega
    have h3 := sT4 s hs x9[i] x9 (i : Int) (m21_order_Serial_L3 x9 s n) s.Tales.length 0 (by omega) big (lt_big (by omega))
    rw [show ((0 : Nat) : Int) = 0 from rfl, List.drop_zero] at h3
    change _ = m21_order_Serial_K16 x9 s (i : Int) _ (isT s x9[i]) at h3
    rw [m21_order_Serial_L3, m21_order_Serial_L3B, if_pos (by omega), idx_ok h1, bind1_some, h3, m21_order_Serial_K16, m21_order_Serial_K15]
    by_cases c : isT s x9[i] = true
    · rw [if_neg (by simp [c]), isucc i (by omega), bind1_some]
      refine ih (i + 1) (by omega) (fun u hu => ?_) n (by omega)
      rw [take_snoc h1, List.mem_append, List.mem_singleton] at hu
      rcases hu with h | rfl
      · exact hall u h
      · exact c
    · rw [if_pos (by simp [c]), m21_order_Serial_K5, if_neg (by omega), m21_order_Serial_K6, isucc i (by omega), bind1_some]
      refine odel1 s hs x9 hlen r (i + 1) (by omega) x9 i (by omega) rfl ?_ rfl big (lt_big (by omega))
      rw [take_snoc h1, List.filter_append, List.filter_eq_self.2 hall]
      simp [c]
theorem refSer (s : TStory) (hs : s.Tales.length ≤ 12) (z : List Int) (hz : z.length ≤ 12) (b : Bool) : ∀ (r i : Nat), i + r = z.length → ∀ acc : List Int, acc.length ≤ i → ∀ n, r < n →
    m23_quirref_StorySerial_L1 z s b n acc (i : Int) = some (acc ++ (z.drop i).filter (isT s), b) := by
  intro r
  induction r with
  | zero =>
    intro i hi acc hacc n hn
    obtain ⟨n, rfl⟩ := dec n hn
    rw [m23_quirref_StorySerial_L1, m23_quirref_StorySerial_L1B, if_neg (by omega), m23_quirref_StorySerial_K2, m23_quirref_StorySerial_K1, List.drop_eq_nil_of_le (by omega)]
    simp
  | succ r ih =>
    intro i hi acc hacc n hn
    obtain ⟨n, rfl⟩ := dec n (by omega)
    have h1 : i < z.length := by omega
    have h3 := rT2 s hs z[i] acc (i : Int) (m23_quirref_StorySerial_L1 z s b n) s.Tales.length 0 (by omega) big (lt_big (by omega))
    rw [show ((0 : Nat) : Int) = 0 from rfl, List.drop_zero] at h3
    change _ = m23_quirref_StorySerial_K4 acc z[i] (i : Int) _ (isT s z[i]) at h3
    rw [m23_quirref_StorySerial_L1, m23_quirref_StorySerial_L1B, if_pos (by omega), idx_ok h1, bind1_some, h3, m23_quirref_StorySerial_K4, m23_quirref_StorySerial_K3, drop_cons h1, List.filter_cons]
    by_cases c : isT s z[i] = true
    · rw [if_pos c, app_ok (by simp; omega), bind1_some, isucc i (by omega), bind1_some, ih (i + 1) (by omega) _ (by simp; omega) n (by omega), if_pos c, List.append_assoc]
      rfl
    · rw [if_neg c, isucc i (by omega), bind1_some, ih (i + 1) (by omega) _ (by omega) n (by omega), if_neg c]
theorem serial_eq (s : TStory) (hgs : GoodS s) (hlim : Lim s) (hc : m22_order_Check s = some 0) : ∃ z ok, m21_order_Serial s = some (z, if ok = true then 0 else 11) ∧ m23_quirref_StorySerial s = some (z, ok) ∧ z.length ≤ 12 ∧ (ok = false → z = []) := by
  have hnt := hgs.nt
  obtain ⟨z, ok, h1, h2, h3, h4, hnil⟩ := ord_k s 3
  have hD : m19_order_Deps s = some (depL s, 0) := by rw [m19_order_Deps, hc, bind1_some, if_neg (by simp), deps_own' s hgs hlim]
  have hdl := depL_len s
  have h5 := serL5 s (depL s) (by omega) (fun x hx => (depL_in s x hx).2.2.2.2.2) (depL s).length 0 (by omega) [] (by simp) big (lt_big (by omega))
  have h6 := refSer s hnt z h4 ok z.length 0 (by omega) [] (by simp) big (lt_big (by omega))
  rw [show ((0 : Nat) : Int) = 0 from rfl, List.drop_zero, List.nil_append] at h5 h6
  have hf : (z.filter (isT s)).length ≤ 12 := Nat.le_trans (List.length_filter_le _ _) h4
  have hown : m21_order_Serial s = m21_order_Serial_K2 s (eo (depL s) 3) := by rw [m21_order_Serial, hD, bind2_some, if_neg (by simp), m21_order_Serial_K1, h5]
  have href : m23_quirref_StorySerial s = some (z.filter (isT s), ok) := by rw [m23_quirref_StorySerial, edgesOf_eq s hgs hlim, bind1_some, h2, bind2_some, h6]
  cases ok with
  | true =>
    have h7 := odel s hnt z (by omega) z.length 0 (by omega) (by simp) big (lt_big (by omega))
    rw [show ((0 : Nat) : Int) = 0 from rfl] at h7
    refine ⟨z.filter (isT s), true, ?_, href, hf, by simp⟩
    rw [hown, m21_order_Serial_K2, h1, bind2_some, if_pos rfl, if_neg (by simp), m21_order_Serial_K3, h7]
  | false =>
    have hz := hnil rfl
    subst hz
    refine ⟨[], false, ?_, href, by simp, fun _ => rfl⟩
    rw [hown, m21_order_Serial_K2, h1, bind2_some, if_neg ff, if_pos (by simp)]

/-! ### Are two lists one -/
theorem intsLoop (a : List Int) (hl : a.length ≤ 1000000) : ∀ (r i : Nat), i + r = a.length → ∀ n, r < n → m14_slices_Equal_int_L1 a a n (i : Int) = some true := by
  intro r
  induction r with
  | zero =>
    intro i hi n hn
    obtain ⟨n, rfl⟩ := dec n hn
    rw [m14_slices_Equal_int_L1, m14_slices_Equal_int_L1B, if_neg (by omega), m14_slices_Equal_int_K2]
  | succ r ih =>
    intro i hi n hn
    obtain ⟨n, rfl⟩ := dec n (by omega)
    have h1 : i < a.length := by omega
    rw [m14_slices_Equal_int_L1, m14_slices_Equal_int_L1B, if_pos (by omega), idx_ok h1, bind1_some, bind1_some, isucc i (by omega), bind1_some, ih (i + 1) (by omega) n (by omega), if_neg (by simp)]
theorem ints_eq (a : List Int) (hl : a.length ≤ 1000000) : m14_slices_Equal_int a a = some true := by
  rw [m14_slices_Equal_int, if_neg (by simp), m14_slices_Equal_int_K1]
  exact intsLoop a hl a.length 0 (by omega) big (lt_big (by omega))
theorem depLoop (a : List TDep) (hl : a.length ≤ 1000000) : ∀ (r i : Nat), i + r = a.length → ∀ n, r < n → m24_api_Dep_L1 a a n (i : Int) = some true := by
  intro r
  induction r with
  | zero =>
    intro i hi n hn
    obtain ⟨n, rfl⟩ := dec n hn
    rw [m24_api_Dep_L1, m24_api_Dep_L1B, if_neg (by omega), m24_api_Dep_K2]
  | succ r ih =>
    intro i hi n hn
    obtain ⟨n, rfl⟩ := dec n (by omega)
    have h1 : i < a.length := by omega
    rw [m24_api_Dep_L1, m24_api_Dep_L1B, if_pos (by omega), idx_ok h1, bind1_some, bind1_some, isucc i (by omega), bind1_some, ih (i + 1) (by omega) n (by omega), if_neg (by simp)]
theorem depl_eq (a : List TDep) (hl : a.length ≤ 1000000) : m24_api_Dep a a = some true := by
  rw [m24_api_Dep, if_neg (by simp), m24_api_Dep_K1]
  exact depLoop a hl a.length 0 (by omega) big (lt_big (by omega))
theorem order_true (s : TStory) (hlim : Lim s) : m4_quirlaw_OrderSays s = some true := by
  obtain ⟨e, h1, h2, h3⟩ := story_eq s hlim
  rw [m4_quirlaw_OrderSays, h1, bind1_some]
  by_cases he : e = 0
  · have hgs := h3 he
    rw [he] at h2
    obtain ⟨f, f1, f2⟩ := faults_eq s hgs hlim h2
    obtain ⟨z, ok, s1, s2, s3, s4⟩ := serial_eq s hgs hlim h2
    have hD : m19_order_Deps s = some (depL s, 0) := by rw [m19_order_Deps, h2, bind1_some, if_neg (by simp), deps_own' s hgs hlim]
    have hq := depl_eq (depL s) (by have := depL_len s; omega)
    have hr := deps_ref s hgs hlim
    rw [hD, bind2_some, f1, bind2_some, s1, bind2_some, h2, bind1_some, if_neg (by simp [he]), m4_quirlaw_OrderSays_K1, if_neg (by simp [he]), m4_quirlaw_OrderSays_K2, s2, bind2_some]
    cases ok with
    | true =>
      rw [if_pos rfl, if_pos rfl, m4_quirlaw_OrderSays_K3, if_pos rfl, ints_eq z (by omega), bind1_some, if_pos rfl, if_pos rfl, m4_quirlaw_OrderSays_K6, if_pos rfl, m4_quirlaw_OrderSays_K5, hr, bind1_some, hq, bind1_some, if_pos rfl, if_pos rfl, f2, bind1_some, if_pos rfl, if_pos rfl]
    | false =>
      obtain rfl := s4 rfl
      rw [if_neg ff, if_neg ff, m4_quirlaw_OrderSays_K3, if_neg ff, if_pos (by simp), m4_quirlaw_OrderSays_K4, hr, bind1_some, hq, bind1_some, if_pos rfl, if_pos rfl, f2, bind1_some, if_pos rfl, if_pos rfl]
      rfl
  · have hD : m19_order_Deps s = some ([], e) := by rw [m19_order_Deps, h2, bind1_some, if_pos he]
    have hF : m20_order_Faults s = some (⟨false, false, false⟩, e) := by rw [m20_order_Faults, hD, bind2_some, if_pos he]
    have hS : m21_order_Serial s = some ([], e) := by rw [m21_order_Serial, hD, bind2_some, if_pos he]
    rw [hD, bind2_some, hF, bind2_some, hS, bind2_some, h2, bind1_some, if_neg (by simp), m4_quirlaw_OrderSays_K1, if_pos he, if_pos (by simp), if_pos rfl, m4_quirlaw_OrderSays_K7, if_pos rfl, if_pos rfl, if_pos rfl, m4_quirlaw_OrderSays_K8, if_pos rfl, if_pos (by simp)]
    simp
end Go.Proofs.Ytkhlapdkomnldaa
