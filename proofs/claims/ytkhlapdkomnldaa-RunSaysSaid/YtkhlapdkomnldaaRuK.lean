/-
  What kind of run one is: the models of both answer alike.
  Conditions: none.
-/
import Derived.Test.YtkhlapdkomnldaaRuS
namespace Go.Proofs.Ytkhlapdkomnldaa
open Go.S
set_option linter.unusedVariables false
set_option linter.unusedSimpArgs false

/-! ### A slice without one number -/
theorem kdel1 (o : TOp) (x9 : List Int) (hlen : x9.length ≤ 200) (gl31 : List (List Int)) (k : Int) (go2 : Int → List (List Int) → Option (TRunKind × Int)) : ∀ (r j : Nat), j + r = x9.length → ∀ (g : List Int) (i : Nat), i ≤ j → g.length = x9.length → g.take i = (x9.take j).filter (fun v => !decide (v = o.Tx)) → g.drop j = x9.drop j → ∀ n, r < n →
    m11_run_Kinds_L3 o gl31 k go2 n g (i : Int) (j : Int) = m11_run_Kinds_K10 gl31 k go2 (x9.filter fun v => !decide (v = o.Tx)) := by
  intro r
  induction r with
  | zero =>
    intro j hj g i hij hg hgi hgd n hn
    obtain ⟨n, rfl⟩ := dec n hn
    have hlt : (g.take i).length = i := by rw [List.length_take]; omega
    rw [m11_run_Kinds_L3, m11_run_Kinds_L3B, if_neg (by omega), m11_run_Kinds_K13, cut_drop g i (by omega), bind1_some, clr_ok g i 0 (by omega), bind1_some, cut_take _ i (by rw [List.length_append]; omega), bind1_some, List.take_left' hlt, hgi, List.take_of_length_le (by omega)]
  | succ r ih =>
    intro j hj g i hij hg hgi hgd n hn
    obtain ⟨n, rfl⟩ := dec n (by omega)
    have h1 : j < x9.length := by omega
    have h2 : j < g.length := by omega
    obtain ⟨hgj, hgd'⟩ := drop_at h1 h2 hgd
    rw [m11_run_Kinds_L3, m11_run_Kinds_L3B, if_pos (by omega), m11_run_Kinds_K14, idx_ok h2, bind1_some, hgj, m11_run_Kinds_K15]
    by_cases c : x9[j] = o.Tx
    · rw [if_neg (by simp [c]), isucc j (by omega), bind1_some]
      refine ih (j + 1) (by omega) g i (by omega) hg ?_ hgd' n (by omega)
      rw [hgi, take_snoc h1, List.filter_append]
      simp [c]
    · have hil : i < g.length := by omega
      rw [if_pos (by simp [c]), idx_ok hil, bind1_some, upd_ok _ hil, bind1_some, isucc i (by omega), bind1_some, isucc j (by omega), bind1_some]
      refine ih (j + 1) (by omega) _ (i + 1) (by omega) (by simpa using hg) ?_ ?_ n (by omega)
      · rw [take_snoc (by simpa using hil), List.getElem_set_self, List.take_set_of_le (Nat.le_refl _), hgi, take_snoc h1, List.filter_append]
        simp [c]
      · rw [List.drop_set_of_lt (by omega)]
        exact hgd'
theorem kdel (o : TOp) (x9 : List Int) (hlen : x9.length ≤ 200) (gl31 : List (List Int)) (k : Int) (go2 : Int → List (List Int) → Option (TRunKind × Int)) : ∀ (r i : Nat), i + r = x9.length → (∀ v ∈ x9.take i, (!decide (v = o.Tx)) = true) → ∀ n, r < n →
    m11_run_Kinds_L4 x9 o gl31 k go2 n (i : Int) = m11_run_Kinds_K10 gl31 k go2 (x9.filter fun v => !decide (v = o.Tx)) := by
  intro r
  induction r with
  | zero =>
    intro i hi hall n hn
    obtain ⟨n, rfl⟩ := dec n hn
    rw [m11_run_Kinds_L4, m11_run_Kinds_L4B, if_neg (by omega), m11_run_Kinds_K16, m11_run_Kinds_K11, if_pos rfl]
    rw [List.take_of_length_le (by omega)] at hall
    rw [List.filter_eq_self.2 hall]
  | succ r ih =>
    intro i hi hall n hn
    obtain ⟨n, rfl⟩ := dec n (by omega)
    have h1 : i < x9.length := by omega
    rw [m11_run_Kinds_L4, m11_run_Kinds_L4B, if_pos (by omega), idx_ok h1, bind1_some, m11_run_Kinds_K17]
    by_cases c : x9[i] = o.Tx
    · rw [if_pos (by simp [c]), m11_run_Kinds_K11, if_neg (by omega), m11_run_Kinds_K12, isucc i (by omega), bind1_some]
      refine kdel1 o x9 hlen gl31 k go2 r (i + 1) (by omega) x9 i (by omega) rfl ?_ rfl big (lt_big (by omega))
      rw [take_snoc h1, List.filter_append, List.filter_eq_self.2 hall]
      simp [c]
    · rw [if_neg (by simp [c]), isucc i (by omega), bind1_some]
      refine ih (i + 1) (by omega) (fun u hu => ?_) n (by omega)
      rw [take_snoc h1, List.mem_append, List.mem_singleton] at hu
      rcases hu with h | rfl
      · exact hall u h
      · simp [c]
theorem kdelAll (o : TOp) (gx4 : Int) (go1 : Int → List (List Int) → List (List Int) → List Int → Bool → Bool → Bool → Option (TRunKind × Int)) (gl5 : List (List Int)) (l75 : List Int) (b1 b2 b3 : Bool) (f : Int → List Int) (hlen : ∀ x, (f x).length ≤ 200) : ∀ (r i : Nat), i + r = 20 → ∀ n, r < n →
    m11_run_Kinds_L2 o gx4 go1 gl5 l75 b1 b2 b3 n (i : Int) (tab 20 fun x => if x < i then (f x).filter (fun v => !decide (v = o.Tx)) else f x) = m11_run_Kinds_K3 gx4 go1 gl5 (tab 20 fun x => (f x).filter fun v => !decide (v = o.Tx)) l75 b1 b2 b3 := by
  intro r
  induction r with
  | zero =>
    intro i hi n hn
    obtain ⟨n, rfl⟩ := dec n hn
    rw [m11_run_Kinds_L2, m11_run_Kinds_L2B, if_neg (by omega)]
    congr 1
    apply tab_ext
    intro x h0 h1
    rw [if_pos (by omega)]
  | succ r ih =>
    intro i hi n hn
    obtain ⟨n, rfl⟩ := dec n (by omega)
    rw [m11_run_Kinds_L2, m11_run_Kinds_L2B, if_pos (by omega), tab_idxA (by omega) (by omega), bind1_some, if_neg (by omega)]
    have h2 := kdel o (f i) (hlen _) (tab 20 fun x => if x < i then (f x).filter (fun v => !decide (v = o.Tx)) else f x) (i : Int) (m11_run_Kinds_L2 o gx4 go1 gl5 l75 b1 b2 b3 n) (f i).length 0 (by omega) (by simp) big (lt_big (by have := hlen (i : Int); omega))
    rw [show ((0 : Nat) : Int) = 0 from rfl] at h2
    rw [h2, m11_run_Kinds_K10, tab_idxA (by omega) (by omega), bind1_some, tab_upd _ (by omega) (by omega), bind1_some, isucc i (by omega), bind1_some, ← ih (i + 1) (by omega) n (by omega)]
    congr 1
    apply tab_ext
    intro x h0 h1
    by_cases c : x = i
    · rw [if_pos c, if_pos (by omega), c]
    · rw [if_neg c]
      by_cases c2 : x < i
      · rw [if_pos c2, if_pos (by omega)]
      · rw [if_neg c2, if_neg (by omega)]

/-! ### What the tables hold -/
def txAt (l : List TOp) (v : Int) : Int := match idx l v with
  | some o => o.Tx
  | none => 0
theorem txAt_ok {l : List TOp} {j : Nat} (h : j < l.length) : txAt l (j : Int) = l[j].Tx := by
  unfold txAt
  rw [idx_ok h]
def wl (l : List TOp) (i : Nat) (x : Int) : List Int := (live l (l.take i) i x).map (txAt l)
theorem wl_len (l : List TOp) (i : Nat) (x : Int) : (wl l i x).length ≤ i := by
  unfold wl
  rw [List.length_map]
  exact live_len ..
/-- From whom a read at a place is, if it is from another one. -/
def rd1 (l : List TOp) (i : Nat) (t : Int) : List Int := match l[i]? with
  | some o => if o.Tx = t ∧ o.Kind = 1 ∧ 0 ≤ wr l (l.take i) o.Item i ∧ txAt l (wr l (l.take i) o.Item i) ≠ t then [txAt l (wr l (l.take i) o.Item i)] else []
  | none => []
def rds (l : List TOp) : Nat → Int → List Int
  | 0, _ => []
  | i + 1, t => rds l i t ++ rd1 l i t
theorem rd1_len (l : List TOp) (i : Nat) (t : Int) : (rd1 l i t).length ≤ 1 := by
  unfold rd1
  split
  · split <;> simp
  · simp
theorem rds_len (l : List TOp) (t : Int) : ∀ i : Nat, (rds l i t).length ≤ i
  | 0 => by simp [rds]
  | i + 1 => by
    have h1 := rds_len l t i
    have h2 := rd1_len l i t
    rw [rds, List.length_append]
    omega
def stt (p : List TOp) (t : Int) : Int := if en p 3 t = true then 3 else if en p 4 t = true then 4 else 0
theorem stt3 (p : List TOp) (t : Int) : decide (stt p t = 3) = en p 3 t := by
  unfold stt
  cases h : en p 3 t with
  | true => simp
  | false =>
    rw [if_neg ff]
    split <;> simp
theorem wr_wrt (l p : List TOp) (x : Int) : ∀ q : Nat, 0 ≤ wr l p x q → ∃ j : Nat, wr l p x q = (j : Int) ∧ j < q ∧ wrt l p x j = true
  | 0, h => by simp [wr] at h
  | q + 1, h => by
    rw [wr] at h ⊢
    by_cases c : wrt l p x q = true
    · rw [if_pos c]; exact ⟨q, rfl, by omega, c⟩
    · rw [if_neg c] at h ⊢
      obtain ⟨j, h1, h2, h3⟩ := wr_wrt l p x q h
      exact ⟨j, h1, by omega, h3⟩
/-- The writer, if there is one: its operation, and that it isn't gone. -/
theorem wr_has (l : List TOp) {i : Nat} (hi : i ≤ l.length) (x : Int) (h : 0 ≤ wr l (l.take i) x i) : ∃ o, idx l (wr l (l.take i) x i) = some o ∧ txAt l (wr l (l.take i) x i) = o.Tx ∧ o ∈ l ∧ en (l.take i) 4 o.Tx = false := by
  obtain ⟨j, h1, h2, h3⟩ := wr_wrt l (l.take i) x i h
  have hj : j < l.length := by omega
  rw [h1]
  refine ⟨l[j], idx_ok hj, txAt_ok hj, List.getElem_mem hj, ?_⟩
  unfold wrt at h3
  rw [List.getElem?_eq_getElem hj] at h3
  simp only [Bool.and_eq_true, Bool.not_eq_true', decide_eq_false_iff_not] at h3
  exact decide_eq_false h3.2
theorem wl_last (l : List TOp) {i : Nat} (hi : i ≤ l.length) (x : Int) : (wl l i x = [] ∧ wr l (l.take i) x i = -1) ∨ (0 < (wl l i x).length ∧ 0 ≤ wr l (l.take i) x i ∧ (wl l i x)[(wl l i x).length - 1]? = some (txAt l (wr l (l.take i) x i))) := by
  have hw := live_last l (l.take i) x i
  unfold wl
  by_cases c : live l (l.take i) i x = []
  · left
    rw [c] at hw ⊢
    exact ⟨rfl, hw⟩
  · right
    have hpos : 0 < (live l (l.take i) i x).length := List.length_pos_iff.2 c
    obtain ⟨v, hv⟩ : ∃ v, (live l (l.take i) i x)[(live l (l.take i) i x).length - 1]? = some v := ⟨_, List.getElem?_eq_getElem (by omega)⟩
    have hwv : wr l (l.take i) x i = v := by rw [hw, List.getLast?_eq_getElem?, hv]; rfl
    obtain ⟨j, hj, _, _⟩ := live_mem (List.mem_of_getElem? hv)
    rw [List.length_map, List.getElem?_map, hv, hwv]
    exact ⟨hpos, by omega, rfl⟩

/-! ### Both, step by step -/
theorem comLoop (l : List TOp) (i : Nat) (o : TOp) (s : List Int) (hs : ∀ t ∈ s, 0 ≤ t ∧ t < 12) (hsl : s.length ≤ 200) (go1 : Int → List (List Int) → List (List Int) → List Int → Bool → Bool → Bool → Option (TRunKind × Int)) (gl5 gl7 : List (List Int)) (b1 b2 : Bool) : ∀ (r k : Nat), k + r = s.length → ∀ (q : Bool) n, r < n →
    m11_run_Kinds_L5 s (tab 12 (stt (l.take i))) o (i : Int) go1 gl5 gl7 b1 b2 n (k : Int) q = m11_run_Kinds_K18 (tab 12 (stt (l.take i))) o (i : Int) go1 gl5 gl7 b1 b2 (q && (s.drop k).all fun t => en (l.take i) 3 t) := by
  intro r
  induction r with
  | zero =>
    intro k hk q n hn
    obtain ⟨n, rfl⟩ := dec n hn
    rw [m11_run_Kinds_L5, m11_run_Kinds_L5B, if_neg (by omega), List.drop_eq_nil_of_le (by omega)]
    simp
  | succ r ih =>
    intro k hk q n hn
    obtain ⟨n, rfl⟩ := dec n (by omega)
    have h1 : k < s.length := by omega
    obtain ⟨g1, g2⟩ := hs s[k] (List.getElem_mem h1)
    rw [m11_run_Kinds_L5, m11_run_Kinds_L5B, if_pos (by omega), idx_ok h1, bind1_some, drop_cons h1, List.all_cons]
    cases q with
    | true => rw [if_pos rfl, tab_idxA g1 g2, bind1_some, isucc k (by omega), bind1_some, ih (k + 1) (by omega) _ n (by omega), stt3, Bool.true_and]
    | false => rw [if_neg ff, isucc k (by omega), bind1_some, ih (k + 1) (by omega) _ n (by omega), Bool.false_and, Bool.false_and]
theorem refCom (l : List TOp) (hg : Good l) (i : Nat) (hi : i < l.length) (o : TOp) (go1 : Int → Bool → Bool → Bool → Option TRunKind) (b1 b2 : Bool) (q : Bool) : ∀ (r j : Nat), j + r = i → ∀ n, r < n →
    m17_quirref_Kinds_L2 (l.take i) o l (i : Int) go1 b1 b2 n (j : Int) (q && (rds l j o.Tx).all fun t => en (l.take i) 3 t) = m17_quirref_Kinds_K3 o (i : Int) go1 b1 b2 l (q && (rds l i o.Tx).all fun t => en (l.take i) 3 t) := by
  have hl := hg.len
  intro r
  induction r with
  | zero =>
    intro j hj n hn
    obtain ⟨n, rfl⟩ := dec n hn
    rw [m17_quirref_Kinds_L2, m17_quirref_Kinds_L2B, if_neg (by rw [List.length_take]; omega), show j = i by omega]
  | succ r ih =>
    intro j hj n hn
    obtain ⟨n, rfl⟩ := dec n (by omega)
    have hjl : j < l.length := by omega
    have h1 : j < (l.take i).length := by rw [List.length_take]; omega
    have hget : (l.take i)[j] = l[j] := List.getElem_take
    have hrd : rd1 l j o.Tx = if l[j].Tx = o.Tx ∧ l[j].Kind = 1 ∧ 0 ≤ wr l (l.take j) l[j].Item j ∧ txAt l (wr l (l.take j) l[j].Item j) ≠ o.Tx then [txAt l (wr l (l.take j) l[j].Item j)] else [] := by
      unfold rd1
      rw [List.getElem?_eq_getElem hjl]
    have hsame : rd1 l j o.Tx = [] → m17_quirref_Kinds_L2 (l.take i) o l (i : Int) go1 b1 b2 n ((j + 1 : Nat) : Int) (q && (rds l j o.Tx).all fun t => en (l.take i) 3 t) = m17_quirref_Kinds_K3 o (i : Int) go1 b1 b2 l (q && (rds l i o.Tx).all fun t => en (l.take i) 3 t) := by
      intro h
      rw [← ih (j + 1) (by omega) n (by omega), rds, h, List.append_nil]
    rw [m17_quirref_Kinds_L2, m17_quirref_Kinds_L2B, if_pos (by omega), idx_ok h1, bind1_some, hget]
    by_cases c1 : l[j].Tx = o.Tx
    · rw [if_neg (by simp [c1])]
      by_cases c2 : l[j].Kind = 1
      · rw [if_neg (by simp [c2]), m17_quirref_Kinds_K6, writer_eq l j _ hl (by omega), bind1_some]
        by_cases c3 : 0 ≤ wr l (l.take j) l[j].Item j
        · obtain ⟨p, p1, p2, p3, p4⟩ := wr_has l (by omega) l[j].Item c3
          rw [if_pos c3, p1, bind1_some]
          by_cases c4 : p.Tx = o.Tx
          · rw [if_neg (by simp [c4]), m17_quirref_Kinds_K7, if_neg ff, isucc j (by omega), bind1_some]
            exact hsame (by rw [hrd, if_neg (by rw [p2]; simp [c4])])
          · rw [if_pos c4, m17_quirref_Kinds_K7, if_pos rfl, cut_take l i (by omega), bind1_some, p1, bind1_some, has_eq _ _ _ (by rw [List.length_take]; omega), bind1_some]
            have hrd' : rd1 l j o.Tx = [p.Tx] := by rw [hrd, if_pos ⟨c1, c2, c3, by rw [p2]; exact c4⟩, p2]
            rw [isucc j (by omega), bind1_some, bind1_some, ← ih (j + 1) (by omega) n (by omega), rds, hrd', List.all_append, List.all_cons, List.all_nil, Bool.and_true, ← Bool.and_assoc]
            by_cases c5 : en (l.take i) 3 p.Tx = true
            · rw [if_pos (show decide _ = true from c5), c5, Bool.and_true]
            · have c5' : en (l.take i) 3 p.Tx = false := by simpa using c5
              rw [if_neg (show ¬decide _ = true from c5), c5', Bool.and_false]
        · rw [if_neg c3, m17_quirref_Kinds_K7, if_neg ff, isucc j (by omega), bind1_some]
          exact hsame (by rw [hrd, if_neg (by simp [c3])])
      · rw [if_pos c2, isucc j (by omega), bind1_some]
        exact hsame (by rw [hrd, if_neg (by simp [c2])])
    · rw [if_pos c1, isucc j (by omega), bind1_some]
      exact hsame (by rw [hrd, if_neg (by simp [c1])])
theorem rds_in (l : List TOp) (hg : Good l) (t : Int) : ∀ i : Nat, i ≤ l.length → ∀ v ∈ rds l i t, 0 ≤ v ∧ v < 12
  | 0, _, v, h => by simp [rds] at h
  | i + 1, hi, v, h => by
    rw [rds, List.mem_append] at h
    rcases h with h | h
    · exact rds_in l hg t i (by omega) v h
    · unfold rd1 at h
      rw [List.getElem?_eq_getElem (show i < l.length by omega)] at h
      simp only at h
      split at h
      · rename_i hc
        rw [List.mem_singleton] at h
        obtain ⟨p, p1, p2, p3, p4⟩ := wr_has l (show i ≤ l.length by omega) l[i].Item hc.2.2.1
        rw [h, p2]
        obtain ⟨j, hj, rfl⟩ := List.getElem_of_mem p3
        exact ⟨(hg.fine j hj).t0, (hg.fine j hj).t1⟩
      · cases h
end Go.Proofs.Ytkhlapdkomnldaa
