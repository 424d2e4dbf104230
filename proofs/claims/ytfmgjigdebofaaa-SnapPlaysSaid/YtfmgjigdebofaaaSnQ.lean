/-
  Runs by snapshots, as if one behind another: what skew.Play answers.
  Conditions: none.
-/
import Derived.Test.YtfmgjigdebofaaaSnP
namespace Go.Proofs.Ytfmgjigdebofaaa
open Go.S
set_option linter.unusedVariables false
set_option linter.unusedSimpArgs false

/-! ### What a transaction has read of others -/
def rs (l : List TOp) (k : Int) : Nat → List Int
  | 0 => []
  | i + 1 => if (opN l i).Kind = 1 ∧ (opN l i).Tx = k ∧ (opN l i).Item ∉ ws l k i ∧ (opN l i).Item ∉ rs l k i then rs l k i ++ [(opN l i).Item] else rs l k i
theorem rs_mem (l : List TOp) (k it : Int) : ∀ i, i ≤ l.length → (it ∈ rs l k i ↔ ∃ j, j < i ∧ (opN l j).Kind = 1 ∧ (opN l j).Tx = k ∧ (opN l j).Item = it ∧ wrB l j k it = false)
  | 0, _ => by simp [rs]
  | i + 1, h => by
    have ih := rs_mem l k it i (by omega)
    have hw := ws_mem l k (opN l i).Item i (by omega)
    rw [rs]
    by_cases c : (opN l i).Kind = 1 ∧ (opN l i).Tx = k ∧ (opN l i).Item ∉ ws l k i ∧ (opN l i).Item ∉ rs l k i
    · rw [if_pos c, List.mem_append, List.mem_singleton, ih]
      constructor
      · rintro (⟨j, h1, h2⟩ | rfl)
        · exact ⟨j, by omega, h2⟩
        · refine ⟨i, by omega, c.1, c.2.1, rfl, ?_⟩
          cases hb : wrB l i k (opN l i).Item with
          | false => rfl
          | true => exact absurd (hw.2 hb) c.2.2.1
      · rintro ⟨j, h1, h2, h3, h4, h5⟩
        by_cases e : j = i
        · subst e; exact .inr h4.symm
        · exact .inl ⟨j, by omega, h2, h3, h4, h5⟩
    · rw [if_neg c, ih]
      constructor
      · rintro ⟨j, h1, h2⟩
        exact ⟨j, by omega, h2⟩
      · rintro ⟨j, h1, h2, h3, h4, h5⟩
        by_cases e : j = i
        · subst e
          by_cases c2 : (opN l j).Item ∈ rs l k j
          · rw [h4] at c2; exact ih.1 c2
          · refine absurd ⟨h2, h3, ?_, c2⟩ c
            intro h6
            have := hw.1 h6
            rw [h4, h5] at this
            cases this
        · exact ⟨j, by omega, h2, h3, h4, h5⟩
theorem rs_len (l : List TOp) (k : Int) : ∀ i, (rs l k i).length ≤ i
  | 0 => by simp [rs]
  | i + 1 => by
    have := rs_len l k i
    rw [rs]
    split
    · simp; omega
    · omega
theorem rs_none {l : List TOp} {k : Int} {i : Nat} (hi : i ≤ l.length) (h : i ≤ bg l k) : rs l k i = [] := by
  rw [List.eq_nil_iff_forall_not_mem]
  intro it hit
  obtain ⟨j, hj, _, he, _⟩ := (rs_mem l k it i hi).1 hit
  rw [opN_at (show j < l.length by omega)] at he
  have := bg_le (show j < l.length by omega) he
  omega
theorem rs_same {l : List TOp} {i : Nat} (h : i < l.length) (hk : l[i].Kind ≠ 1) (k : Int) : rs l k (i + 1) = rs l k i := by
  rw [rs, opN_at h, if_neg (fun c => hk c.1)]

/-! ### Whether and as the how-manyeth it committed -/
def dn (l : List TOp) (K : Nat → Bool) (i : Nat) (k : Int) : Bool := (cm K i).any fun c => decide (txN l c = k)
def aT (l : List TOp) (K : Nat → Bool) (i : Nat) (k : Int) : Int := match (cm K i).find? fun c => decide (txN l c = k) with
  | some c => (nc K c : Int) + 1
  | none => 0
theorem dn_succ (l : List TOp) (K : Nat → Bool) (i : Nat) (k : Int) : dn l K (i + 1) k = (dn l K i k || (K i && decide (txN l i = k))) := by
  unfold dn
  rw [cm_succ, List.any_append]
  cases K i <;> simp
theorem find_none {l : List TOp} {K : Nat → Bool} {i : Nat} {k : Int} (h : dn l K i k = false) : (cm K i).find? (fun c => decide (txN l c = k)) = none := by
  rw [List.find?_eq_none]
  unfold dn at h
  rw [List.any_eq_false] at h
  exact h
theorem aT_succ (l : List TOp) (K : Nat → Bool) (i : Nat) (k : Int) (h : dn l K i k = false) : aT l K (i + 1) k = if K i = true ∧ txN l i = k then (nc K i : Int) + 1 else 0 := by
  unfold aT
  rw [cm_succ, List.find?_append, find_none h]
  by_cases c : K i = true
  · by_cases c2 : txN l i = k
    · rw [if_pos c, if_pos ⟨c, c2⟩]; simp [c2]
    · rw [if_pos c, if_neg (fun h => c2 h.2)]; simp [c2]
  · rw [if_neg c, if_neg (fun h => c h.1)]; simp
theorem aT_same (l : List TOp) (K : Nat → Bool) (i : Nat) (k : Int) (h : ¬ (K i = true ∧ txN l i = k)) : aT l K (i + 1) k = aT l K i k := by
  have e : (cm K (i + 1)).find? (fun c => decide (txN l c = k)) = (cm K i).find? (fun c => decide (txN l c = k)) := by
    rw [cm_succ, List.find?_append]
    by_cases c : K i = true
    · have : ¬ txN l i = k := fun h2 => h ⟨c, h2⟩
      rw [if_pos c]; simp [this]
    · rw [if_neg c]; simp
  unfold aT
  rw [e]
theorem com_tx {l : List TOp} (hg : Good l) {D : List TDid} {i c c' : Nat} (hi : i ≤ l.length) (hc : c ∈ cm (okc l D) i) (hc' : c' ∈ cm (okc l D) i) (h : txN l c = txN l c') : c = c' := by
  obtain ⟨h1, h2⟩ := cm_mem.1 hc
  obtain ⟨h3, h4⟩ := cm_mem.1 hc'
  obtain ⟨g1, g2⟩ := okc_com h2
  obtain ⟨g3, g4⟩ := okc_com h4
  rw [txN_at g1, txN_at g3] at h
  by_cases c1 : c < c'
  · exact absurd h (com_other hg g3 c1 (by omega))
  · by_cases c2 : c' < c
    · exact absurd h.symm (com_other hg g1 c2 (by omega))
    · omega
theorem dn_com {l : List TOp} {K : Nat → Bool} {i c : Nat} (hc : c ∈ cm K i) : dn l K i (txN l c) = true := by
  unfold dn
  exact List.any_eq_true.2 ⟨c, hc, by simp⟩
theorem aT_com {l : List TOp} (hg : Good l) {D : List TDid} {i c : Nat} (hi : i ≤ l.length) (hc : c ∈ cm (okc l D) i) : aT l (okc l D) i (txN l c) = (nc (okc l D) c : Int) + 1 := by
  have h := dn_com (l := l) hc
  unfold aT
  cases hf : (cm (okc l D) i).find? (fun q => decide (txN l q = txN l c)) with
  | none =>
    rw [List.find?_eq_none] at hf
    have := hf c hc
    simp at this
  | some q =>
    have h1 := List.mem_of_find?_eq_some hf
    have h2 : txN l q = txN l c := by simpa using List.find?_some hf
    rw [com_tx hg hi h1 hc h2]
theorem dn_now {l : List TOp} (hg : Good l) {D : List TDid} {i : Nat} (hi : i < l.length) : dn l (okc l D) i l[i].Tx = false := by
  unfold dn
  rw [List.any_eq_false]
  intro c hc
  obtain ⟨h1, h2⟩ := cm_mem.1 hc
  obtain ⟨g1, g2⟩ := okc_com h2
  rw [decide_eq_true_iff, txN_at g1]
  exact com_other hg hi h1 (by omega)

/-! ### The table of skew -/
def stU (l : List TOp) (K : Nat → Bool) (i m : Nat) (j : Int) : Ttx209 := ⟨decide (bg l j < m), dn l K i j, if bg l j < m then (nc K (bg l j) : Int) else 0, aT l K i j, rs l j i, ws l j i⟩
def verU (l : List TOp) (K : Nat → Bool) (i : Nat) (it : Int) : List Int := ((cm K i).filter fun c => wrB l c (txN l c) it).map (txN l)
theorem verU_len (l : List TOp) (K : Nat → Bool) (i : Nat) (it : Int) : (verU l K i it).length ≤ i := by
  unfold verU
  rw [List.length_map]
  exact Nat.le_trans (List.length_filter_le _ _) (cm_len K i)
theorem verU_succ (l : List TOp) (K : Nat → Bool) (i : Nat) (it : Int) : verU l K (i + 1) it = if K i = true ∧ wrB l i (txN l i) it = true then verU l K i it ++ [txN l i] else verU l K i it := by
  unfold verU
  rw [cm_succ]
  by_cases c : K i = true
  · by_cases c2 : wrB l i (txN l i) it = true
    · rw [if_pos c, if_pos ⟨c, c2⟩]; simp [c2]
    · rw [if_pos c, if_neg (fun h => c2 h.2)]; simp [c2]
  · rw [if_neg c, if_neg (fun h => c h.1)]; simp
theorem txN_range {l : List TOp} (hg : Good l) {c : Nat} (h : c < l.length) : 0 ≤ txN l c ∧ txN l c < 12 := by
  rw [txN_at h]
  exact ⟨(hg.fine c h).t0, (hg.fine c h).t1⟩
theorem beginU_same {l : List TOp} {K : Nat → Bool} {i : Nat} (hi : i < l.length) (h : bg l l[i].Tx < i) : tab 12 (stU l K i i) = tab 12 (stU l K i (i + 1)) := by
  apply tab_ext
  intro j _ _
  have h2 : bg l j ≠ i := by
    by_cases c : l[i].Tx = j
    · rw [← c]; omega
    · exact bg_new hi c
  unfold stU
  by_cases c : bg l j < i
  · simp [c, show bg l j < i + 1 by omega]
  · simp [c, show ¬ bg l j < i + 1 by omega]
theorem beginU_new {l : List TOp} (hg : Good l) {D : List TDid} {i : Nat} (hi : i < l.length) (h : ¬ bg l l[i].Tx < i) : tab 12 (fun j => if j = l[i].Tx then (⟨true, false, (nc (okc l D) i : Int), 0, [], []⟩ : Ttx209) else stU l (okc l D) i i j) = tab 12 (stU l (okc l D) i (i + 1)) := by
  have hb : bg l l[i].Tx = i := by have := bg_le hi rfl; omega
  apply tab_ext
  intro j _ _
  by_cases c : j = l[i].Tx
  · have ha : aT l (okc l D) i l[i].Tx = 0 := by
      unfold aT
      rw [find_none (dn_now hg hi)]
    rw [if_pos c, c, stU, hb, ws_none hg (by omega) (by omega), rs_none (by omega) (by omega), dn_now hg hi, ha]
    simp
  · rw [if_neg c]
    have h2 := bg_new hi (Ne.symm c)
    unfold stU
    by_cases c2 : bg l j < i
    · simp [c2, show bg l j < i + 1 by omega]
    · simp [c2, show ¬ bg l j < i + 1 by omega]

/-! ### Reads -/
abbrev GoU := List TDid → Int → List Ttx209 → Int → List (List Int) → Option (List TDid × Int)
theorem readULoop (v : List Int) (hv : v.length ≤ 200) (hr : ∀ w ∈ v, 0 ≤ w ∧ w < 12) (G : Int → Ttx209) (o : TOp) (ho : 0 ≤ o.Tx ∧ o.Tx < 12) (gl4 : List TDid) (gx5 : Int) (go1 : GoU) (gx8 : Int) (gl9 : List (List Int)) : ∀ (r j : Nat), j + r = v.length → ∀ n, r < n → ∀ out,
    m96_skew_Play_L10 v (tab 12 G) o gl4 gx5 go1 gx8 gl9 n out (j : Int) = m96_skew_Play_K44 gl4 gx5 go1 gx8 gl9 (tab 12 G) ((v.drop j).foldl (fun out w => if (G w).at_ ≤ (G o.Tx).from_ then w else out) out) := by
  intro r
  induction r with
  | zero =>
    intro j hj n hn out
    obtain ⟨n, rfl⟩ := dec n hn
    rw [m96_skew_Play_L10, m96_skew_Play_L10B, if_neg (by omega), List.drop_eq_nil_of_le (by omega)]
    rfl
  | succ r ih =>
    intro j hj n hn out
    obtain ⟨n, rfl⟩ := dec n (by omega)
    have h1 : j < v.length := by omega
    have h2 := hr _ (List.getElem_mem h1)
    rw [m96_skew_Play_L10, m96_skew_Play_L10B, if_pos (by omega), idx_ok h1, bind1_some, tab_idxA h2.1 (by omega), bind1_some, tab_idx ho.1 (by omega), bind1_some, isucc j (by omega), bind1_some, drop_cons h1, List.foldl_cons]
    simp only [bind1_some, ih (j + 1) (by omega) n (by omega)]
    by_cases c : (G v[j]).at_ ≤ (G o.Tx).from_
    · rw [if_pos c, if_pos c]
    · rw [if_neg c, if_neg c]
theorem fold_verU (l : List TOp) (K : Nat → Bool) (o : TOp) (A : Int → Int) : ∀ (s : List Nat) (out : Int), (∀ c ∈ s, K c = true ∧ A (txN l c) = (nc K c : Int) + 1) →
    ((s.filter fun c => wrB l c (txN l c) o.Item).map (txN l)).foldl (fun out w => if A w ≤ (nc K (bg l o.Tx) : Int) then w else out) out = s.foldl (fromG l o) out
  | [], out, _ => rfl
  | c :: s, out, hs => by
    have hc := nc_iff (b := bg l o.Tx) (hs c (by simp)).1
    have ih := fun out => fold_verU l K o A s out (fun c hc => hs c (by simp [hc]))
    rw [List.foldl_cons]
    by_cases c2 : wrB l c (txN l c) o.Item = true
    · rw [List.filter_cons_of_pos (by simpa using c2), List.map_cons, List.foldl_cons, ih, (hs c (by simp)).2]
      congr 1
      unfold fromG
      by_cases c3 : c < bg l o.Tx
      · have := hc.2 c3
        rw [if_pos c3, if_pos c2, if_pos (show (nc K c : Int) + 1 ≤ (nc K (bg l o.Tx) : Int) by omega)]
      · have : ¬ nc K c + 1 ≤ nc K (bg l o.Tx) := fun h => c3 (hc.1 h)
        rw [if_neg c3, if_neg (show ¬ (nc K c : Int) + 1 ≤ (nc K (bg l o.Tx) : Int) by omega)]
    · rw [List.filter_cons_of_neg (by simpa using c2), ih]
      congr 1
      unfold fromG
      rw [if_neg c2]
      split <;> rfl

/-! ### Commits -/
theorem addULoop (w : List Int) (hw : ∀ it ∈ w, 0 ≤ it ∧ it < 20) (hn : w.Nodup) (hwl : w.length ≤ 200) (o : TOp) (x15 : Int) (x20 : Ttx209) (hx : x20.writes_ = w) (gl4 : List TDid) (gx5 : Int) (go1 : GoU) (G : Int → Ttx209) : ∀ (r j : Nat), j + r = w.length → ∀ n, r < n → ∀ V : Int → List Int, (∀ it, (V it).length + r ≤ 1000) →
    m96_skew_Play_L2 x20 (tab 12 G) o gl4 gx5 go1 x15 n (j : Int) (tab 20 V) = m96_skew_Play_K5 gl4 gx5 go1 (-1) (tab 12 G) x15 (tab 20 fun it => if it ∈ w.drop j then V it ++ [o.Tx] else V it) := by
  intro r
  induction r with
  | zero =>
    intro j hj n hn V hV
    obtain ⟨n, rfl⟩ := dec n hn
    rw [m96_skew_Play_L2, m96_skew_Play_L2B, hx, if_neg (by omega), List.drop_eq_nil_of_le (by omega)]
    simp
  | succ r ih =>
    intro j hj n hn' V hV
    obtain ⟨n, rfl⟩ := dec n (by omega)
    have h1 : j < w.length := by omega
    have h2 := hw _ (List.getElem_mem h1)
    have hd : w[j] ∉ w.drop (j + 1) := by
      have : (w.drop j).Nodup := hn.sublist (List.drop_sublist _ _)
      rw [drop_cons h1, List.nodup_cons] at this
      exact this.1
    have hl := hV w[j]
    rw [m96_skew_Play_L2, m96_skew_Play_L2B, hx, if_pos (by omega), idx_ok h1, bind1_some, tab_idxA h2.1 (by omega), bind1_some, arrN_ok (tab_length _ _), bind1_some, app_ok (by simp; omega), bind1_some, bind1_some, tab_upd _ h2.1 (by omega), bind1_some, isucc j (by omega), bind1_some]
    rw [ih (j + 1) (by omega) n (by omega) _ (fun it => by
      have := hV it
      split
      · rename_i e; rw [e] at this; simp; omega
      · omega)]
    congr 1
    apply tab_ext
    intro it _ _
    rw [drop_cons h1]
    by_cases c : it = w[j]
    · rw [if_neg (by rw [c]; exact hd), if_pos c, if_pos (List.mem_cons.2 (.inl c)), c]
    · rw [if_neg c]
      by_cases c2 : it ∈ w.drop (j + 1)
      · rw [if_pos c2, if_pos (List.mem_cons_of_mem _ c2)]
      · rw [if_neg c2, if_neg (fun h => (List.mem_cons.1 h).elim c c2)]

/-! ### Beside one another; skips -/
def besB (x y : Ttx209) : Bool := (!x.done_ || decide (y.from_ < x.at_)) && (!y.done_ || decide (x.from_ < y.at_))
def comB (a b : List Int) : Bool := a.any fun it => decide (it ∈ b)
theorem comB_cons (a : Int) (s b : List Int) : comB (a :: s) b = (decide (a ∈ b) || comB s b) := rfl
def skT (x y : Ttx209) : Bool := besB x y && comB x.reads_ y.writes_
theorem L7_eq (x y : Ttx209) (hx : x.reads_.length ≤ 200) (hy : y.writes_.length ≤ 200) (q : Bool) (gx39 : Int) (go4 : Bool → Bool → Int → Option (List TDid × Int)) (a b : Int) (gl18 : List Ttx209) : ∀ (r j : Nat), j + r = x.reads_.length → ∀ n, r < n →
    m96_skew_Play_L7 x y q gx39 go4 a b gl18 n (j : Int) = m96_skew_Play_K28 q gx39 go4 a b gl18 (comB (x.reads_.drop j) y.writes_) := by
  intro r
  induction r with
  | zero =>
    intro j hj n hn
    obtain ⟨n, rfl⟩ := dec n hn
    rw [m96_skew_Play_L7, m96_skew_Play_L7B, if_neg (by omega), List.drop_eq_nil_of_le (by omega)]
    rfl
  | succ r ih =>
    intro j hj n hn
    obtain ⟨n, rfl⟩ := dec n (by omega)
    have h1 : j < x.reads_.length := by omega
    rw [m96_skew_Play_L7, m96_skew_Play_L7B, if_pos (by omega), idx_ok h1, bind1_some, contains_eq _ _ (by omega), bind1_some, m96_skew_Play_K33, isucc j (by omega), bind1_some, ih (j + 1) (by omega) n (by omega), drop_cons h1, comB_cons]
    by_cases c : x.reads_[j] ∈ y.writes_
    · rw [if_pos (decide_eq_true c), m96_skew_Play_K31, m96_skew_Play_K30, decide_eq_true c, decide_eq_true (show (0 : Int) ≤ (j : Int) by omega)]; rfl
    · rw [if_neg (by simpa using c), decide_eq_false c]; rfl
theorem L5_eq (x y : Ttx209) (hx : x.reads_.length ≤ 200) (hy : y.writes_.length ≤ 200) (gx39 : Int) (go4 : Bool → Bool → Int → Option (List TDid × Int)) : ∀ (r j : Nat), j + r = x.reads_.length → ∀ n, r < n →
    m96_skew_Play_L5 x y gx39 go4 n (j : Int) = m96_skew_Play_K14 gx39 go4 (comB (x.reads_.drop j) y.writes_) := by
  intro r
  induction r with
  | zero =>
    intro j hj n hn
    obtain ⟨n, rfl⟩ := dec n hn
    rw [m96_skew_Play_L5, m96_skew_Play_L5B, if_neg (by omega), List.drop_eq_nil_of_le (by omega)]
    rfl
  | succ r ih =>
    intro j hj n hn
    obtain ⟨n, rfl⟩ := dec n (by omega)
    have h1 : j < x.reads_.length := by omega
    rw [m96_skew_Play_L5, m96_skew_Play_L5B, if_pos (by omega), idx_ok h1, bind1_some, contains_eq _ _ (by omega), bind1_some, m96_skew_Play_K19, isucc j (by omega), bind1_some, ih (j + 1) (by omega) n (by omega), drop_cons h1, comB_cons]
    by_cases c : x.reads_[j] ∈ y.writes_
    · rw [if_pos (decide_eq_true c), m96_skew_Play_K17, m96_skew_Play_K16, decide_eq_true c, decide_eq_true (show (0 : Int) ≤ (j : Int) by omega)]; rfl
    · rw [if_neg (by simpa using c), decide_eq_false c]; rfl
theorem L6_eq (x y : Ttx209) (hx : x.reads_.length ≤ 200) (hy : y.writes_.length ≤ 200) (gx39 : Int) (go4 : Bool → Bool → Int → Option (List TDid × Int)) : ∀ (r j : Nat), j + r = x.reads_.length → ∀ n, r < n →
    m96_skew_Play_L6 x y gx39 go4 n (j : Int) = m96_skew_Play_K21 gx39 go4 (comB (x.reads_.drop j) y.writes_) := by
  intro r
  induction r with
  | zero =>
    intro j hj n hn
    obtain ⟨n, rfl⟩ := dec n hn
    rw [m96_skew_Play_L6, m96_skew_Play_L6B, if_neg (by omega), List.drop_eq_nil_of_le (by omega)]
    rfl
  | succ r ih =>
    intro j hj n hn
    obtain ⟨n, rfl⟩ := dec n (by omega)
    have h1 : j < x.reads_.length := by omega
    rw [m96_skew_Play_L6, m96_skew_Play_L6B, if_pos (by omega), idx_ok h1, bind1_some, contains_eq _ _ (by omega), bind1_some, m96_skew_Play_K26, isucc j (by omega), bind1_some, ih (j + 1) (by omega) n (by omega), drop_cons h1, comB_cons]
    by_cases c : x.reads_[j] ∈ y.writes_
    · rw [if_pos (decide_eq_true c), m96_skew_Play_K24, m96_skew_Play_K23, decide_eq_true c, decide_eq_true (show (0 : Int) ≤ (j : Int) by omega)]; rfl
    · rw [if_neg (by simpa using c), decide_eq_false c]; rfl
theorem skA (x y : Ttx209) (hx : x.reads_.length ≤ 200) (hy : y.writes_.length ≤ 200) (q : Bool) (gx39 : Int) (go4 : Bool → Bool → Int → Option (List TDid × Int)) (a b : Int) (gl18 : List Ttx209) :
    (if x.done_ = true then if y.from_ < x.at_ then m96_skew_Play_K34 y x q gx39 go4 a b gl18 true else m96_skew_Play_K34 y x q gx39 go4 a b gl18 false else m96_skew_Play_K34 y x q gx39 go4 a b gl18 true) = m96_skew_Play_K13 q gx39 go4 a b gl18 (skT x y) := by
  have h := L7_eq x y hx hy q gx39 go4 a b gl18 x.reads_.length 0 (by omega) big (lt_big (by omega))
  rw [show ((0 : Nat) : Int) = 0 from rfl, List.drop_zero] at h
  have hb : ∀ b1 : Bool, m96_skew_Play_K29 x y q gx39 go4 a b gl18 b1 = m96_skew_Play_K28 q gx39 go4 a b gl18 (b1 && comB x.reads_ y.writes_) := by
    intro b1
    rw [m96_skew_Play_K29, h]
    cases b1 <;> rfl
  have hk : ∀ b1 : Bool, m96_skew_Play_K28 q gx39 go4 a b gl18 b1 = m96_skew_Play_K13 q gx39 go4 a b gl18 b1 := by
    intro b1
    rw [m96_skew_Play_K28]
    cases b1 <;> rfl
  simp only [m96_skew_Play_K34, hb, hk, skT, besB]
  by_cases c1 : y.from_ < x.at_ <;> by_cases c2 : x.from_ < y.at_ <;> cases x.done_ <;> cases y.done_ <;> simp [c1, c2]
theorem skB (x y : Ttx209) (hx : x.reads_.length ≤ 200) (hy : y.writes_.length ≤ 200) (gx39 : Int) (go4 : Bool → Bool → Int → Option (List TDid × Int)) :
    (if x.done_ = true then if y.from_ < x.at_ then m96_skew_Play_K20 y x gx39 go4 true else m96_skew_Play_K20 y x gx39 go4 false else m96_skew_Play_K20 y x gx39 go4 true) = m96_skew_Play_K14 gx39 go4 (skT x y) := by
  have h := L5_eq x y hx hy gx39 go4 x.reads_.length 0 (by omega) big (lt_big (by omega))
  rw [show ((0 : Nat) : Int) = 0 from rfl, List.drop_zero] at h
  have hb : ∀ b1 : Bool, m96_skew_Play_K15 x y gx39 go4 b1 = m96_skew_Play_K14 gx39 go4 (b1 && comB x.reads_ y.writes_) := by
    intro b1
    rw [m96_skew_Play_K15, h]
    cases b1 <;> rfl
  simp only [m96_skew_Play_K20, hb, skT, besB]
  by_cases c1 : y.from_ < x.at_ <;> by_cases c2 : x.from_ < y.at_ <;> cases x.done_ <;> cases y.done_ <;> simp [c1, c2]
theorem skC (x y : Ttx209) (hx : x.reads_.length ≤ 200) (hy : y.writes_.length ≤ 200) (gx39 : Int) (go4 : Bool → Bool → Int → Option (List TDid × Int)) :
    (if x.done_ = true then if y.from_ < x.at_ then m96_skew_Play_K27 y x gx39 go4 true else m96_skew_Play_K27 y x gx39 go4 false else m96_skew_Play_K27 y x gx39 go4 true) = m96_skew_Play_K21 gx39 go4 (skT x y) := by
  have h := L6_eq x y hx hy gx39 go4 x.reads_.length 0 (by omega) big (lt_big (by omega))
  rw [show ((0 : Nat) : Int) = 0 from rfl, List.drop_zero] at h
  have hb : ∀ b1 : Bool, m96_skew_Play_K22 x y gx39 go4 b1 = m96_skew_Play_K21 gx39 go4 (b1 && comB x.reads_ y.writes_) := by
    intro b1
    rw [m96_skew_Play_K22, h]
    cases b1 <;> rfl
  simp only [m96_skew_Play_K27, hb, skT, besB]
  by_cases c1 : y.from_ < x.at_ <;> by_cases c2 : x.from_ < y.at_ <;> cases x.done_ <;> cases y.done_ <;> simp [c1, c2]
def inT (G : Int → Ttx209) (s : List Int) (b : Int) : Bool := s.any fun a => !decide (a = b) && skT (G a) (G b)
def outT (G : Int → Ttx209) (s : List Int) (b : Int) : Bool := s.any fun a => !decide (a = b) && skT (G b) (G a)
theorem L4_eq (G : Int → Ttx209) (hr : ∀ a, (G a).reads_.length ≤ 200 ∧ (G a).writes_.length ≤ 200) (s : List Int) (hs : ∀ a ∈ s, 0 ≤ a ∧ a < 12) (hsl : s.length ≤ 200) (b : Int) (hb : 0 ≤ b ∧ b < 12) (gl4 : List TDid) (gx5 : Int) (go1 : GoU) (gx8 : Int) (gl9 : List (List Int)) (o : TOp) (gx34 : Int) (go3 : Int → Option (List TDid × Int)) : ∀ (r j : Nat), j + r = s.length → ∀ n, r < n → ∀ p q : Bool,
    m96_skew_Play_L4 s b (tab 12 G) gl4 gx5 go1 gx8 gl9 o gx34 go3 n p q (j : Int) = m96_skew_Play_K12 gl4 gx5 go1 (tab 12 G) gx8 gl9 o gx34 go3 (p || inT G (s.drop j) b) (q || outT G (s.drop j) b) := by
  intro r
  induction r with
  | zero =>
    intro j hj n hn p q
    obtain ⟨n, rfl⟩ := dec n hn
    rw [m96_skew_Play_L4, m96_skew_Play_L4B, if_neg (by omega), List.drop_eq_nil_of_le (by omega)]
    simp [inT, outT]
  | succ r ih =>
    intro j hj n hn p q
    obtain ⟨n, rfl⟩ := dec n (by omega)
    have h1 : j < s.length := by omega
    have h2 := hs _ (List.getElem_mem h1)
    have hin : inT G (s.drop j) b = ((!decide (s[j] = b) && skT (G s[j]) (G b)) || inT G (s.drop (j + 1)) b) := by rw [drop_cons h1]; rfl
    have hou : outT G (s.drop j) b = ((!decide (s[j] = b) && skT (G b) (G s[j])) || outT G (s.drop (j + 1)) b) := by rw [drop_cons h1]; rfl
    have e13 : ∀ p' : Bool, m96_skew_Play_K13 q (j : Int) (m96_skew_Play_L4 s b (tab 12 G) gl4 gx5 go1 gx8 gl9 o gx34 go3 n) s[j] b (tab 12 G) p' = m96_skew_Play_K12 gl4 gx5 go1 (tab 12 G) gx8 gl9 o gx34 go3 (p' || inT G (s.drop (j + 1)) b) (q || outT G (s.drop j) b) := by
      intro p'
      rw [m96_skew_Play_K13, tab_idxA hb.1 (by omega), bind1_some, tab_idxA h2.1 (by omega), bind1_some, bind1_some, bind1_some, skB _ _ (hr _).1 (hr _).2, skC _ _ (hr _).1 (hr _).2, isucc j (by omega), hou]
      simp only [m96_skew_Play_K14, m96_skew_Play_K21, isucc j (show j < 9223372036854775807 by omega), bind1_some, ih (j + 1) (by omega) n (by omega)]
      by_cases c : s[j] = b
      · simp only [c, ne_eq, not_true_eq_false, if_false, decide_true, Bool.not_true, Bool.false_and, Bool.false_or]
        cases p' <;> cases q <;> simp
      · simp only [c, ne_eq, not_false_eq_true, if_true, decide_false, Bool.not_false, Bool.true_and]
        cases p' <;> cases q <;> cases skT (G b) (G s[j]) <;> simp
    rw [m96_skew_Play_L4, m96_skew_Play_L4B, if_pos (by omega), idx_ok h1, bind1_some, tab_idxA h2.1 (by omega), bind1_some, tab_idxA hb.1 (by omega), bind1_some, skA _ _ (hr _).1 (hr _).2]
    simp only [e13]
    rw [hin]
    by_cases c : s[j] = b
    · simp only [c, ne_eq, not_true_eq_false, if_false, decide_true, Bool.not_true, Bool.false_and, Bool.false_or]
      cases p <;> simp
    · simp only [c, ne_eq, not_false_eq_true, if_true, decide_false, Bool.not_false, Bool.true_and]
      cases p <;> simp
theorem L3_eq (G : Int → Ttx209) (hr : ∀ a, (G a).reads_.length ≤ 200 ∧ (G a).writes_.length ≤ 200) (s : List Int) (hs : ∀ a ∈ s, 0 ≤ a ∧ a < 12) (hsl : s.length ≤ 200) (gl4 : List TDid) (gx5 : Int) (go1 : GoU) (gx8 : Int) (gl9 : List (List Int)) (o : TOp) : ∀ (r j : Nat), j + r = s.length → ∀ n, r < n →
    m96_skew_Play_L3 s (tab 12 G) gl4 gx5 go1 gx8 gl9 o n (j : Int) = m96_skew_Play_K8 gl4 gx5 go1 (tab 12 G) gx8 gl9 o ((s.drop j).any fun b => inT G s b && outT G s b) := by
  intro r
  induction r with
  | zero =>
    intro j hj n hn
    obtain ⟨n, rfl⟩ := dec n hn
    rw [m96_skew_Play_L3, m96_skew_Play_L3B, if_neg (by omega), List.drop_eq_nil_of_le (by omega)]
    rfl
  | succ r ih =>
    intro j hj n hn
    obtain ⟨n, rfl⟩ := dec n (by omega)
    have h1 : j < s.length := by omega
    have h3 := L4_eq G hr s hs hsl s[j] (hs _ (List.getElem_mem h1)) gl4 gx5 go1 gx8 gl9 o (j : Int) (m96_skew_Play_L3 s (tab 12 G) gl4 gx5 go1 gx8 gl9 o n) s.length 0 (by omega) big (lt_big (by omega)) false false
    rw [show ((0 : Nat) : Int) = 0 from rfl, List.drop_zero] at h3
    rw [m96_skew_Play_L3, m96_skew_Play_L3B, if_pos (by omega), idx_ok h1, bind1_some, h3, m96_skew_Play_K12, m96_skew_Play_K11, isucc j (by omega), bind1_some, ih (j + 1) (by omega) n (by omega), drop_cons h1, List.any_cons]
    cases inT G s s[j] <;> cases outT G s s[j] <;> rfl
theorem L9_eq (x y : Ttx209) (hx : x.writes_.length ≤ 200) (hy : y.writes_.length ≤ 200) (gl4 : List TDid) (gx5 : Int) (go1 : GoU) (gl18 : List Ttx209) (gx8 : Int) (gl9 : List (List Int)) (o : TOp) (gl63 : List Int) (gx64 : Int) (go8 : List Int → Int → Option (List TDid × Int)) : ∀ (r j : Nat), j + r = x.writes_.length → ∀ n, r < n →
    m96_skew_Play_L9 x y gl4 gx5 go1 gl18 gx8 gl9 o gl63 gx64 go8 n (j : Int) = m96_skew_Play_K36 gl4 gx5 go1 gl18 gx8 gl9 o gl63 gx64 go8 (comB (x.writes_.drop j) y.writes_) := by
  intro r
  induction r with
  | zero =>
    intro j hj n hn
    obtain ⟨n, rfl⟩ := dec n hn
    rw [m96_skew_Play_L9, m96_skew_Play_L9B, if_neg (by omega), List.drop_eq_nil_of_le (by omega)]
    rfl
  | succ r ih =>
    intro j hj n hn
    obtain ⟨n, rfl⟩ := dec n (by omega)
    have h1 : j < x.writes_.length := by omega
    rw [m96_skew_Play_L9, m96_skew_Play_L9B, if_pos (by omega), idx_ok h1, bind1_some, contains_eq _ _ (by omega), bind1_some, m96_skew_Play_K39, isucc j (by omega), bind1_some, ih (j + 1) (by omega) n (by omega), drop_cons h1, comB_cons]
    by_cases c : x.writes_[j] ∈ y.writes_
    · rw [if_pos (decide_eq_true c), m96_skew_Play_K37, decide_eq_true c, decide_eq_true (show (0 : Int) ≤ (j : Int) by omega)]; rfl
    · rw [if_neg (by simpa using c), decide_eq_false c]; rfl
/-- Of those that committed: whose writes are lost? -/
def losT (G : Int → Ttx209) (k : Int) (j : Nat) : Bool := !decide ((j : Int) = k) && (G j).done_ && (besB (G k) (G j) && comB (G k).writes_ (G j).writes_)
def donT (G : Int → Ttx209) (k : Int) (j : Nat) : Bool := !decide ((j : Int) = k) && (G j).done_
theorem L8_eq (G : Int → Ttx209) (hr : ∀ a, (G a).reads_.length ≤ 200 ∧ (G a).writes_.length ≤ 200) (o : TOp) (ho : 0 ≤ o.Tx ∧ o.Tx < 12) (gl4 : List TDid) (gx5 : Int) (go1 : GoU) (gx8 : Int) (gl9 : List (List Int)) : ∀ (r j : Nat), j + r = 12 → ∀ n, r < n → ∀ acc : List Int, acc.length ≤ j →
    m96_skew_Play_L8 (tab 12 G) o (G o.Tx) gl4 gx5 go1 gx8 gl9 n acc (j : Int) = if (List.range' j r).any (losT G o.Tx) = true then m96_skew_Play_K8 gl4 gx5 go1 (tab 12 G) gx8 gl9 o true else m96_skew_Play_K9 o (tab 12 G) gl4 gx5 go1 gx8 gl9 (acc ++ ints ((List.range' j r).filter (donT G o.Tx))) := by
  intro r
  induction r with
  | zero =>
    intro j hj n hn acc ha
    obtain ⟨n, rfl⟩ := dec n hn
    rw [m96_skew_Play_L8, m96_skew_Play_L8B, if_neg (by omega)]
    simp [ints]
  | succ r ih =>
    intro j hj n hn acc ha
    obtain ⟨n, rfl⟩ := dec n (by omega)
    have h9 := L9_eq (G o.Tx) (G j) (hr _).2 (hr _).2 gl4 gx5 go1 (tab 12 G) gx8 gl9 o acc (j : Int) (m96_skew_Play_L8 (tab 12 G) o (G o.Tx) gl4 gx5 go1 gx8 gl9 n) (G o.Tx).writes_.length 0 (by omega) big (lt_big (by have := (hr o.Tx).2; omega))
    rw [show ((0 : Nat) : Int) = 0 from rfl, List.drop_zero] at h9
    have happ : app acc [(j : Int)] = some (acc ++ [(j : Int)]) := app_ok (by simp; omega)
    have h35 : ∀ b1 : Bool, m96_skew_Play_K35 (G o.Tx) (G j) gl4 gx5 go1 (tab 12 G) gx8 gl9 o acc (j : Int) (m96_skew_Play_L8 (tab 12 G) o (G o.Tx) gl4 gx5 go1 gx8 gl9 n) b1 = m96_skew_Play_K36 gl4 gx5 go1 (tab 12 G) gx8 gl9 o acc (j : Int) (m96_skew_Play_L8 (tab 12 G) o (G o.Tx) gl4 gx5 go1 gx8 gl9 n) (b1 && comB (G o.Tx).writes_ (G j).writes_) := by
      intro b1
      rw [m96_skew_Play_K35, h9]
      cases b1
      · rfl
      · rfl
    have hbes : (if (G o.Tx).done_ = true then if (G j).from_ < (G o.Tx).at_ then m96_skew_Play_K40 (G j) (G o.Tx) gl4 gx5 go1 (tab 12 G) gx8 gl9 o acc (j : Int) (m96_skew_Play_L8 (tab 12 G) o (G o.Tx) gl4 gx5 go1 gx8 gl9 n) true else m96_skew_Play_K40 (G j) (G o.Tx) gl4 gx5 go1 (tab 12 G) gx8 gl9 o acc (j : Int) (m96_skew_Play_L8 (tab 12 G) o (G o.Tx) gl4 gx5 go1 gx8 gl9 n) false else m96_skew_Play_K40 (G j) (G o.Tx) gl4 gx5 go1 (tab 12 G) gx8 gl9 o acc (j : Int) (m96_skew_Play_L8 (tab 12 G) o (G o.Tx) gl4 gx5 go1 gx8 gl9 n) true)
        = m96_skew_Play_K36 gl4 gx5 go1 (tab 12 G) gx8 gl9 o acc (j : Int) (m96_skew_Play_L8 (tab 12 G) o (G o.Tx) gl4 gx5 go1 gx8 gl9 n) (besB (G o.Tx) (G j) && comB (G o.Tx).writes_ (G j).writes_) := by
      simp only [m96_skew_Play_K40, h35, besB]
      by_cases c1 : (G j).from_ < (G o.Tx).at_ <;> by_cases c2 : (G o.Tx).from_ < (G j).at_ <;> cases (G o.Tx).done_ <;> cases (G j).done_ <;> simp [c1, c2]
    rw [m96_skew_Play_L8, m96_skew_Play_L8B, if_pos (by omega), tab_idxA (by omega) (by omega), bind1_some, hbes, isucc j (by omega), List.range'_succ, List.any_cons, List.filter_cons]
    simp only [bind1_some, m96_skew_Play_K36, happ, isucc j (show j < 9223372036854775807 by omega)]
    by_cases c1 : (j : Int) = o.Tx
    · rw [if_neg (by simpa using c1), ih (j + 1) (by omega) n (by omega) acc (by omega)]
      have hl : losT G o.Tx j = false := by simp [losT, c1]
      have hdn : donT G o.Tx j = false := by simp [donT, c1]
      rw [hl, hdn, Bool.false_or, if_neg ff]
    · rw [if_pos c1]
      have hl : losT G o.Tx j = ((G j).done_ && (besB (G o.Tx) (G j) && comB (G o.Tx).writes_ (G j).writes_)) := by simp [losT, c1]
      have hdn : donT G o.Tx j = (G j).done_ := by simp [donT, c1]
      rw [hl, hdn]
      have i1 := ih (j + 1) (by omega) n (by omega) acc (by omega)
      have i2 := ih (j + 1) (by omega) n (by omega) (acc ++ [(j : Int)]) (by simp; omega)
      cases hd : (G j).done_ with
      | false =>
        rw [if_neg ff, i1, Bool.false_and, Bool.false_or, if_neg ff]
      | true =>
        rw [if_pos rfl, i2]
        cases hq : (besB (G o.Tx) (G j) && comB (G o.Tx).writes_ (G j).writes_) with
        | true => rw [if_pos rfl, Bool.true_and, Bool.true_or, if_pos rfl]
        | false =>
          rw [if_neg ff, Bool.and_false, Bool.false_or, if_pos rfl]
          simp [ints]
end Go.Proofs.Ytfmgjigdebofaaa
