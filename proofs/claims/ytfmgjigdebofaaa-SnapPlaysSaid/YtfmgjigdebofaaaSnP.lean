/-
  Runs by snapshots: what snap.Play answers.
  Conditions: none.
-/
import Derived.Test.YtfmgjigdebofaaaSnR
namespace Go.Proofs.Ytfmgjigdebofaaa
open Go.S
set_option linter.unusedVariables false
set_option linter.unusedSimpArgs false

/-! ### Is an int in a list -/
theorem indexLoop (w : List Int) (q : Int) (hl : w.length ≤ 1000000) : ∀ (r i : Nat), i + r = w.length → ∀ n, r < n →
    ∃ k : Int, m121_slices_Index_int_L1 w q n (i : Int) = some k ∧ (0 ≤ k ↔ q ∈ w.drop i) := by
  intro r
  induction r with
  | zero =>
    intro i hi n hn
    obtain ⟨n, rfl⟩ := dec n hn
    rw [m121_slices_Index_int_L1, m121_slices_Index_int_L1B, if_neg (by omega), List.drop_eq_nil_of_le (by omega)]
    exact ⟨-1, rfl, by simp⟩
  | succ r ih =>
    intro i hi n hn
    obtain ⟨n, rfl⟩ := dec n (by omega)
    have h1 : i < w.length := by omega
    rw [m121_slices_Index_int_L1, m121_slices_Index_int_L1B, if_pos (by omega), idx_ok h1, bind1_some, isucc i (by omega), bind1_some, drop_cons h1]
    by_cases c : q = w[i]
    · rw [if_pos c]; exact ⟨i, rfl, ⟨fun _ => by rw [c]; exact List.mem_cons_self .., fun _ => by omega⟩⟩
    · rw [if_neg c]
      obtain ⟨k, h2, h3⟩ := ih (i + 1) (by omega) n (by omega)
      exact ⟨k, h2, by rw [h3, List.mem_cons]; simp [c]⟩
theorem contains_eq (w : List Int) (q : Int) (hl : w.length ≤ 1000000) : m134_slices_Contains_int w q = some (decide (q ∈ w)) := by
  obtain ⟨j, h1, h2⟩ := indexLoop w q hl w.length 0 (by omega) big (lt_big (by omega))
  rw [m134_slices_Contains_int, m121_slices_Index_int]
  rw [show ((0 : Nat) : Int) = 0 from rfl, List.drop_zero] at *
  rw [h1, bind1_some]
  congr 1
  rw [decide_eq_decide]
  exact h2

/-! ### How many have committed -/
def nc (K : Nat → Bool) (i : Nat) : Nat := (cm K i).length
theorem nc_succ (K : Nat → Bool) (i : Nat) : nc K (i + 1) = nc K i + if K i = true then 1 else 0 := by
  unfold nc
  rw [cm_succ, List.length_append]
  split <;> rfl
theorem nc_mono (K : Nat → Bool) {i j : Nat} (h : i ≤ j) : nc K i ≤ nc K j := by
  induction j with
  | zero => rw [show i = 0 by omega]; exact Nat.le_refl _
  | succ j ih =>
    by_cases c : i = j + 1
    · rw [c]; exact Nat.le_refl _
    · have := ih (by omega)
      rw [nc_succ]; omega
theorem nc_iff {K : Nat → Bool} {c b : Nat} (hc : K c = true) : nc K c + 1 ≤ nc K b ↔ c < b := by
  constructor
  · intro h
    by_cases h2 : b ≤ c
    · have := nc_mono K h2; omega
    · omega
  · intro h
    have h1 := nc_mono K (show c + 1 ≤ b by omega)
    rw [nc_succ, if_pos hc] at h1
    exact h1
theorem nc_le (K : Nat → Bool) (i : Nat) : nc K i ≤ i := cm_len K i

/-! ### What a transaction has written -/
def ws (l : List TOp) (k : Int) : Nat → List Int
  | 0 => []
  | i + 1 => if (opN l i).Kind = 2 ∧ (opN l i).Tx = k ∧ (opN l i).Item ∉ ws l k i then ws l k i ++ [(opN l i).Item] else ws l k i
theorem ws_mem (l : List TOp) (k it : Int) : ∀ i, i ≤ l.length → (it ∈ ws l k i ↔ wrB l i k it = true)
  | 0, _ => by simp [ws, wrB]
  | i + 1, h => by
    have ih := ws_mem l k it i (by omega)
    have h1 : i < l.length := by omega
    have e : wrB l (i + 1) k it = true ↔ wrB l i k it = true ∨ (⟨k, 2, it⟩ : TOp) = l[i] := by
      unfold wrB
      rw [decide_eq_true_iff, decide_eq_true_iff, take_snoc h1, List.mem_append, List.mem_singleton]
    rw [e, ← ih, ws, opN_at h1]
    by_cases c : l[i].Kind = 2 ∧ l[i].Tx = k ∧ l[i].Item ∉ ws l k i
    · rw [if_pos c, List.mem_append, List.mem_singleton]
      obtain ⟨c1, c2, c3⟩ := c
      constructor
      · rintro (h | rfl)
        · exact .inl h
        · exact .inr (by rw [← c1, ← c2])
      · rintro (h | h)
        · exact .inl h
        · exact .inr (by rw [← h])
    · rw [if_neg c]
      constructor
      · exact .inl
      · rintro (h | h)
        · exact h
        · by_cases c2 : it ∈ ws l k i
          · exact c2
          · exact absurd ⟨by rw [← h], by rw [← h], by rw [← h]; exact c2⟩ c
theorem ws_nodup (l : List TOp) (k : Int) : ∀ i, (ws l k i).Nodup
  | 0 => by simp [ws]
  | i + 1 => by
    rw [ws]
    split
    · rename_i h
      rw [List.nodup_append]
      exact ⟨ws_nodup l k i, by simp, fun a ha b hb => by
        have : b = (opN l i).Item := by simpa using hb
        rintro rfl
        rw [this] at ha
        exact h.2.2 ha⟩
    · exact ws_nodup l k i
theorem ws_len (l : List TOp) (k : Int) : ∀ i, (ws l k i).length ≤ i
  | 0 => by simp [ws]
  | i + 1 => by
    have := ws_len l k i
    rw [ws]
    split
    · simp; omega
    · omega
theorem wr_in {l : List TOp} (hg : Good l) {i : Nat} {k it : Int} (h : wrB l i k it = true) : ∃ j, ∃ hj : j < l.length, j < i ∧ l[j] = ⟨k, 2, it⟩ := by
  unfold wrB at h
  rw [decide_eq_true_iff] at h
  obtain ⟨j, hj, he⟩ := List.getElem_of_mem h
  rw [List.getElem_take] at he
  rw [List.length_take] at hj
  exact ⟨j, by omega, by omega, he⟩
theorem ws_range {l : List TOp} (hg : Good l) (k : Int) {i : Nat} (hi : i ≤ l.length) : ∀ it ∈ ws l k i, 0 ≤ it ∧ it < 20 := by
  intro it h
  obtain ⟨j, hj, _, he⟩ := wr_in hg ((ws_mem l k it i hi).1 h)
  have hf := hg.fine j hj
  have h1 := hf.i0
  have h2 := hf.i1
  rw [he] at h1 h2
  exact ⟨h1, h2⟩
theorem ws_none {l : List TOp} (hg : Good l) {k : Int} {i : Nat} (hi : i ≤ l.length) (h : i ≤ bg l k) : ws l k i = [] := by
  rw [List.eq_nil_iff_forall_not_mem]
  intro it hit
  obtain ⟨j, hj, hji, he⟩ := wr_in hg ((ws_mem l k it i hi).1 hit)
  have := bg_le hj (k := k) (by rw [he])
  omega
theorem ws_same {l : List TOp} {i : Nat} (h : i < l.length) (hk : l[i].Kind ≠ 2) (k : Int) : ws l k (i + 1) = ws l k i := by
  rw [ws, opN_at h, if_neg (fun c => hk c.1)]

/-! ### Who has committed is over -/
theorem com_other {l : List TOp} (hg : Good l) {c i : Nat} (hi : i < l.length) (hc : c < i) (hk : 2 < (l[c]'(by omega)).Kind) : (l[c]'(by omega)).Tx ≠ l[i].Tx := by
  intro h
  have h1 := (hg.fine i hi).open'
  unfold ended at h1
  rw [List.any_eq_false] at h1
  refine h1 l[c] ?_ ?_
  · rw [List.mem_iff_getElem]
    exact ⟨c, by rw [List.length_take]; omega, by rw [List.getElem_take]⟩
  · simp [h, hk]
theorem okc_com {l : List TOp} {D : List TDid} {c : Nat} (h : okc l D c = true) : ∃ h : c < l.length, l[c].Kind = 3 := by
  unfold okc at h
  split at h
  · rename_i o e h1 h2
    obtain ⟨h3, h4⟩ := List.getElem?_eq_some_iff.1 h1
    refine ⟨h3, ?_⟩
    simp only [Bool.and_eq_true, decide_eq_true_eq] at h
    rw [h4]; exact h.1
  · cases h
/-- A commit that stands is not another one's begin. -/
theorem com_bg {l : List TOp} (hg : Good l) {D : List TDid} {c i : Nat} (hi : i < l.length) (hc : c ∈ cm (okc l D) i) : c ≠ bg l l[i].Tx := by
  intro h
  obtain ⟨h1, h2⟩ := cm_mem.1 hc
  obtain ⟨h3, h4⟩ := okc_com h2
  refine com_other hg hi h1 (by omega) ?_
  have := bg_at (l := l) (k := l[i].Tx) (by omega)
  simp only [h]
  exact this
theorem bg_new {l : List TOp} {i : Nat} (hi : i < l.length) {j : Int} (h : l[i].Tx ≠ j) : bg l j ≠ i := by
  rintro rfl
  exact h (bg_at hi)

/-! ### The table of snap -/
def stT (l : List TOp) (K : Nat → Bool) (i m : Nat) (j : Int) : Ttx := ⟨decide (bg l j < m), if bg l j < m then (nc K (bg l j) : Int) else 0, ws l j i⟩
def ver (l : List TOp) (K : Nat → Bool) (c : Nat) : Tversion := ⟨txN l c, (nc K c : Int) + 1⟩
def vers (l : List TOp) (K : Nat → Bool) (i : Nat) (it : Int) : List Tversion := ((cm K i).filter fun c => wrB l c (txN l c) it).map (ver l K)
theorem vers_len (l : List TOp) (K : Nat → Bool) (i : Nat) (it : Int) : (vers l K i it).length ≤ i := by
  unfold vers
  rw [List.length_map]
  exact Nat.le_trans (List.length_filter_le _ _) (cm_len K i)
theorem vers_succ (l : List TOp) (K : Nat → Bool) (i : Nat) (it : Int) : vers l K (i + 1) it = if K i = true ∧ wrB l i (txN l i) it = true then vers l K i it ++ [ver l K i] else vers l K i it := by
  unfold vers
  rw [cm_succ]
  by_cases c : K i = true
  · by_cases c2 : wrB l i (txN l i) it = true
    · rw [if_pos c, if_pos ⟨c, c2⟩]; simp [c2]
    · rw [if_pos c, if_neg (fun h => c2 h.2)]; simp [c2]
  · rw [if_neg c, if_neg (fun h => c h.1)]; simp
/-- As it begins. -/
theorem begin_same {l : List TOp} {K : Nat → Bool} {i : Nat} (hi : i < l.length) (h : bg l l[i].Tx < i) : tab 12 (stT l K i i) = tab 12 (stT l K i (i + 1)) := by
  apply tab_ext
  intro j _ _
  have h2 : bg l j ≠ i := by
    by_cases c : l[i].Tx = j
    · rw [← c]; omega
    · exact bg_new hi c
  unfold stT
  by_cases c : bg l j < i
  · simp [c, show bg l j < i + 1 by omega]
  · simp [c, show ¬ bg l j < i + 1 by omega]
theorem begin_new {l : List TOp} (hg : Good l) {K : Nat → Bool} {i : Nat} (hi : i < l.length) (h : ¬ bg l l[i].Tx < i) : tab 12 (fun j => if j = l[i].Tx then (⟨true, (nc K i : Int), []⟩ : Ttx) else stT l K i i j) = tab 12 (stT l K i (i + 1)) := by
  have hb : bg l l[i].Tx = i := by have := bg_le hi rfl; omega
  apply tab_ext
  intro j _ _
  by_cases c : j = l[i].Tx
  · rw [if_pos c, c, stT, hb, ws_none hg (by omega) (by omega)]
    simp
  · rw [if_neg c]
    have h2 := bg_new hi (Ne.symm c)
    unfold stT
    by_cases c2 : bg l j < i
    · simp [c2, show bg l j < i + 1 by omega]
    · simp [c2, show ¬ bg l j < i + 1 by omega]

/-! ### The loops of snap -/
abbrev GoS := List TDid → Int → List Ttx → Int → List (List Tversion) → Option (List TDid × Int)
theorem readLoop (x91 : List Tversion) (hv : x91.length ≤ 200) (x87 : Ttx) (gl18 : List Ttx) (o : TOp) (gl4 : List TDid) (gx5 : Int) (go1 : GoS) (gx8 : Int) (gl9 : List (List Tversion)) : ∀ (r j : Nat), j + r = x91.length → ∀ n, r < n → ∀ out,
    m95_snap_Play_L5 x91 x87 gl18 o gl4 gx5 go1 gx8 gl9 n out (j : Int) = m95_snap_Play_K13 gl18 o gl4 gx5 go1 gx8 gl9 ((x91.drop j).foldl (fun out v => if v.at_ ≤ x87.from_ then v.by_ else out) out) := by
  intro r
  induction r with
  | zero =>
    intro j hj n hn out
    obtain ⟨n, rfl⟩ := dec n hn
    rw [m95_snap_Play_L5, m95_snap_Play_L5B, if_neg (by omega), List.drop_eq_nil_of_le (by omega)]
    rfl
  | succ r ih =>
    intro j hj n hn out
    obtain ⟨n, rfl⟩ := dec n (by omega)
    have h1 : j < x91.length := by omega
    rw [m95_snap_Play_L5, m95_snap_Play_L5B, if_pos (by omega), idx_ok h1, bind1_some, isucc j (by omega), bind1_some, drop_cons h1, List.foldl_cons]
    simp only [bind1_some, ih (j + 1) (by omega) n (by omega)]
    by_cases c : x91[j].at_ ≤ x87.from_
    · rw [if_pos c, if_pos c]
    · rw [if_neg c, if_neg c]
theorem fold_vers (l : List TOp) (K : Nat → Bool) (o : TOp) : ∀ (s : List Nat) (out : Int), (∀ c ∈ s, K c = true) →
    ((s.filter fun c => wrB l c (txN l c) o.Item).map (ver l K)).foldl (fun out v => if v.at_ ≤ (nc K (bg l o.Tx) : Int) then v.by_ else out) out = s.foldl (fromG l o) out
  | [], out, _ => rfl
  | c :: s, out, hs => by
    have hc := nc_iff (b := bg l o.Tx) (hs c (by simp))
    have ih := fun out => fold_vers l K o s out (fun c hc => hs c (by simp [hc]))
    rw [List.foldl_cons]
    by_cases c2 : wrB l c (txN l c) o.Item = true
    · rw [List.filter_cons_of_pos (by simpa using c2), List.map_cons, List.foldl_cons, ih]
      congr 1
      unfold fromG ver
      by_cases c3 : c < bg l o.Tx
      · have := hc.2 c3
        rw [if_pos c3, if_pos c2, if_pos (show (nc K c : Int) + 1 ≤ (nc K (bg l o.Tx) : Int) by omega)]
      · have : ¬ nc K c + 1 ≤ nc K (bg l o.Tx) := fun h => c3 (hc.1 h)
        rw [if_neg c3, if_neg (show ¬ (nc K c : Int) + 1 ≤ (nc K (bg l o.Tx) : Int) by omega)]
    · rw [List.filter_cons_of_neg (by simpa using c2), ih]
      congr 1
      unfold fromG
      rw [if_neg c2]
      split <;> rfl
theorem seekLoop (x49 : List Tversion) (hv : x49.length ≤ 200) (gl18 : List Ttx) (x54 : Ttx) (o : TOp) (hx : idx gl18 o.Tx = some x54) (gl4 : List TDid) (gx5 : Int) (go1 : GoS) (gx8 : Int) (gl9 : List (List Tversion)) (gx38 : Int) (go3 : Int → Option (List TDid × Int)) : ∀ (r j : Nat), j + r = x49.length → ∀ n, r < n →
    m95_snap_Play_L4 x49 gl18 o gl4 gx5 go1 gx8 gl9 gx38 go3 n (j : Int) = if ((x49.drop j).any fun v => decide (x54.from_ < v.at_)) = true then m95_snap_Play_K8 gl4 gx5 go1 gl18 false gx8 gl9 else m95_snap_Play_K11 gx38 go3 := by
  intro r
  induction r with
  | zero =>
    intro j hj n hn
    obtain ⟨n, rfl⟩ := dec n hn
    rw [m95_snap_Play_L4, m95_snap_Play_L4B, if_neg (by omega), List.drop_eq_nil_of_le (by omega)]
    rfl
  | succ r ih =>
    intro j hj n hn
    obtain ⟨n, rfl⟩ := dec n (by omega)
    have h1 : j < x49.length := by omega
    rw [m95_snap_Play_L4, m95_snap_Play_L4B, if_pos (by omega), idx_ok h1, bind1_some, hx, bind1_some, isucc j (by omega), bind1_some, drop_cons h1, List.any_cons, ih (j + 1) (by omega) n (by omega)]
    by_cases c : x54.from_ < x49[j].at_
    · rw [if_pos c, decide_eq_true c]; rfl
    · rw [if_neg c, decide_eq_false c]; rfl
theorem clashLoop (w : List Int) (hw : ∀ it ∈ w, 0 ≤ it ∧ it < 20) (hwl : w.length ≤ 200) (V : Int → List Tversion) (hV : ∀ it, (V it).length ≤ 200) (T : Int → Ttx) (o : TOp) (ho : 0 ≤ o.Tx ∧ o.Tx < 12) (x45 : Ttx) (hx45 : x45.writes_ = w) (gl4 : List TDid) (gx5 : Int) (go1 : GoS) (gx8 : Int) : ∀ (r j : Nat), j + r = w.length → ∀ n, r < n →
    m95_snap_Play_L3 x45 (tab 20 V) (tab 12 T) o gl4 gx5 go1 gx8 n (j : Int) = if ((w.drop j).any fun it => (V it).any fun v => decide ((T o.Tx).from_ < v.at_)) = true then m95_snap_Play_K8 gl4 gx5 go1 (tab 12 T) false gx8 (tab 20 V) else m95_snap_Play_K9 (tab 12 T) gx8 o gl4 gx5 go1 (tab 20 V) := by
  intro r
  induction r with
  | zero =>
    intro j hj n hn
    obtain ⟨n, rfl⟩ := dec n hn
    rw [m95_snap_Play_L3, m95_snap_Play_L3B, hx45, if_neg (by omega), List.drop_eq_nil_of_le (by omega)]
    rfl
  | succ r ih =>
    intro j hj n hn
    obtain ⟨n, rfl⟩ := dec n (by omega)
    have h1 : j < w.length := by omega
    have h2 := hw _ (List.getElem_mem h1)
    have h3 := seekLoop (V w[j]) (hV _) (tab 12 T) (T o.Tx) o (tab_idx ho.1 (by omega)) gl4 gx5 go1 gx8 (tab 20 V) (j : Int) (m95_snap_Play_L3 x45 (tab 20 V) (tab 12 T) o gl4 gx5 go1 gx8 n) (V w[j]).length 0 (by omega) big (lt_big (by have := hV w[j]; omega))
    rw [show ((0 : Nat) : Int) = 0 from rfl, List.drop_zero] at h3
    rw [m95_snap_Play_L3, m95_snap_Play_L3B, hx45, if_pos (by omega), idx_ok h1, bind1_some, tab_idxA h2.1 (by omega), bind1_some, arrN_ok (tab_length 12 T), bind1_some, h3, m95_snap_Play_K11, isucc j (by omega), bind1_some, ih (j + 1) (by omega) n (by omega), drop_cons h1, List.any_cons]
    cases (V w[j]).any fun v => decide ((T o.Tx).from_ < v.at_) <;> rfl
theorem addLoop (w : List Int) (hw : ∀ it ∈ w, 0 ≤ it ∧ it < 20) (hn : w.Nodup) (hwl : w.length ≤ 200) (o : TOp) (x15 : Int) (x16 : Ttx) (hx16 : x16.writes_ = w) (gl4 : List TDid) (gx5 : Int) (go1 : GoS) (gl18 : List Ttx) : ∀ (r j : Nat), j + r = w.length → ∀ n, r < n → ∀ V : Int → List Tversion, (∀ it, (V it).length + r ≤ 1000) →
    m95_snap_Play_L2 x16 o x15 gl4 gx5 go1 gl18 n (j : Int) (tab 20 V) = m95_snap_Play_K10 gl4 gx5 go1 gl18 x15 (tab 20 fun it => if it ∈ w.drop j then V it ++ [⟨o.Tx, x15⟩] else V it) := by
  intro r
  induction r with
  | zero =>
    intro j hj n hn V hV
    obtain ⟨n, rfl⟩ := dec n hn
    rw [m95_snap_Play_L2, m95_snap_Play_L2B, hx16, if_neg (by omega), List.drop_eq_nil_of_le (by omega)]
    simp
  | succ r ih =>
    intro j hj n hn' V hV
    obtain ⟨n, rfl⟩ := dec n (by omega)
    have h1 : j < w.length := by omega
    have h2 := hw _ (List.getElem_mem h1)
    have hd : w[j] ∉ w.drop (j + 1) := by
      have : (w.drop j).Nodup := hn.sublist (List.drop_sublist _ _)
      rw [drop_cons h1, List.nodup_cons] at this
      exact this.1
    have hl := hV w[j]
    rw [m95_snap_Play_L2, m95_snap_Play_L2B, hx16, if_pos (by omega), idx_ok h1, bind1_some, tab_idxA h2.1 (by omega), bind1_some, app_ok (by simp; omega), bind1_some, bind1_some, tab_upd _ h2.1 (by omega), bind1_some, isucc j (by omega), bind1_some]
    rw [ih (j + 1) (by omega) n (by omega) _ (fun it => by
      have := hV it
      split
      · rename_i e; rw [e] at this; simp; omega
      · omega)]
    congr 1
    apply tab_ext
    intro it _ _
    rw [drop_cons h1]
    by_cases c : it = w[j]
    · rw [if_neg (by rw [c]; exact hd), if_pos c, if_pos (List.mem_cons.2 (.inl c)), c]
    · rw [if_neg c]
      by_cases c2 : it ∈ w.drop (j + 1)
      · rw [if_pos c2, if_pos (List.mem_cons_of_mem _ c2)]
      · rw [if_neg c2, if_neg (fun h => (List.mem_cons.1 h).elim c c2)]
/-- Would a write be lost: as the table tells it. -/
theorem lost_own {l : List TOp} (hg : Good l) (D : List TDid) {i : Nat} (hi : i < l.length) :
    ((ws l l[i].Tx i).any fun it => (vers l (okc l D) i it).any fun v => decide ((nc (okc l D) (bg l l[i].Tx) : Int) < v.at_)) = lostB l (okc l D) i l[i].Tx := by
  rw [Bool.eq_iff_iff, List.any_eq_true, lostB, List.any_eq_true]
  have hlt : ∀ c ∈ cm (okc l D) i, (nc (okc l D) (bg l l[i].Tx) : Int) < (nc (okc l D) c : Int) + 1 ↔ bg l l[i].Tx < c := by
    intro c hc
    have h9 := nc_iff (b := bg l l[i].Tx) (cm_mem.1 hc).2
    have h10 := com_bg hg hi hc
    constructor
    · intro h
      by_cases c2 : c < bg l l[i].Tx
      · have := h9.2 c2; omega
      · omega
    · intro h
      by_cases c2 : nc (okc l D) c + 1 ≤ nc (okc l D) (bg l l[i].Tx)
      · have := h9.1 c2; omega
      · omega
  constructor
  · rintro ⟨it, h1, h2⟩
    obtain ⟨v, h3, h4⟩ := List.any_eq_true.1 h2
    obtain ⟨c, h5, rfl⟩ := List.mem_map.1 h3
    obtain ⟨h6, h7⟩ := List.mem_filter.1 h5
    have hr := ws_range hg l[i].Tx (by omega) it h1
    have h8 := (ws_mem l l[i].Tx it i (by omega)).1 h1
    obtain ⟨q, rfl⟩ := Int.eq_ofNat_of_zero_le hr.1
    refine ⟨c, h6, List.any_eq_true.2 ⟨q, by rw [List.mem_range']; exact ⟨q, by omega, by omega⟩, ?_⟩⟩
    have h11 := (hlt c h6).1 (of_decide_eq_true h4)
    unfold lostP
    rw [decide_eq_true h11, h8]
    simpa using h7
  · rintro ⟨c, h1, h2⟩
    obtain ⟨q, h3, h4⟩ := List.any_eq_true.1 h2
    unfold lostP at h4
    simp only [Bool.and_eq_true, decide_eq_true_eq] at h4
    refine ⟨(q : Int), (ws_mem l l[i].Tx q i (by omega)).2 h4.2, List.any_eq_true.2 ⟨ver l (okc l D) c, List.mem_map.2 ⟨c, List.mem_filter.2 ⟨h1, by simpa using h4.1.2⟩, rfl⟩, ?_⟩⟩
    exact decide_eq_true ((hlt c h1).2 h4.1.1)

/-! ### One operation behind another -/
theorem opKinds {l : List TOp} (hg : Good l) {i : Nat} (hi : i < l.length) : 1 ≤ l[i].Kind ∧ l[i].Kind ≤ 4 := ⟨(hg.fine i hi).k0, (hg.fine i hi).k1⟩
theorem okc_now {l : List TOp} {D : List TDid} {i : Nat} (hi : i < l.length) {e : TDid} (he : D[i]? = some e) : okc l D i = (decide (l[i].Kind = 3) && e.OK) := by
  obtain ⟨h1, h2⟩ := List.getElem?_eq_some_iff.1 he
  rw [okc_at hi h1, h2]
theorem snapLoop (l : List TOp) (hg : Good l) (D : List TDid) (hD : D.length = l.length) (hsp : ∀ j, j < l.length → D[j]? = some (sp l false (okc l D) j)) : ∀ (r i : Nat), i + r = l.length → ∀ n, r < n →
    m95_snap_Play_L1 l n (D.take i) (i : Int) (tab 12 (stT l (okc l D) i i)) (nc (okc l D) i : Int) (tab 20 (vers l (okc l D) i)) = some (D, 0) := by
  have hl := hg.len
  intro r
  induction r with
  | zero =>
    intro i hi n hn
    obtain ⟨n, rfl⟩ := dec n hn
    rw [m95_snap_Play_L1, m95_snap_Play_L1B, if_neg (by omega), m95_snap_Play_K2, List.take_of_length_le (by omega)]
  | succ r ih =>
    intro i hi n hn
    obtain ⟨n, rfl⟩ := dec n (by omega)
    have h1 : i < l.length := by omega
    have hf := hg.fine i h1
    generalize hK : okc l D = K at *
    have hsi := hsp i h1
    have ih := ih (i + 1) (by omega) n (by omega)
    have ht0 := hf.t0
    have ht1 := hf.t1
    have hbg : bg l l[i].Tx < i + 1 := by have := bg_le h1 (k := l[i].Tx) rfl; omega
    -- what is appended
    have fin : ∀ (e : TDid) (TT : List Ttx) (dd : Int) (WW : List (List Tversion)), e = sp l false K i → TT = tab 12 (stT l K (i + 1) (i + 1)) → dd = (nc K (i + 1) : Int) → WW = tab 20 (vers l K (i + 1)) →
        m95_snap_Play_K3 (D.take i) (i : Int) (m95_snap_Play_L1 l n) e.OK e.From TT dd WW = some (D, 0) := by
      intro e TT dd WW he h2 h3 h4
      have hi2 : i < D.length := by omega
      have h5 : D[i] = e := by
        have := hsi
        rw [List.getElem?_eq_getElem hi2, Option.some.injEq] at this
        rw [this, he]
      rw [m95_snap_Play_K3, app_ok (by rw [List.length_take]; simp; omega), bind1_some, isucc i (by omega), bind1_some, h2, h3, h4]
      have h6 : D.take i ++ [(⟨e.OK, e.From⟩ : TDid)] = D.take (i + 1) := by rw [take_snoc hi2, h5]
      rw [h6]
      exact ih
    have hs : sp l false K i = if l[i].Kind = 1 then ⟨true, sfrom l K i l[i]⟩ else if l[i].Kind = 3 then ⟨!lostB l K i l[i].Tx, -1⟩ else ⟨true, -1⟩ := by rw [sp, opN_at h1]; simp
    have hKi : K i = (decide (l[i].Kind = 3) && (sp l false K i).OK) := by rw [← hK]; rw [← hK] at hsi; exact okc_now h1 hsi
    have stw : ∀ j, (stT l K (i + 1) (i + 1) j) = ⟨(stT l K i (i + 1) j).began_, (stT l K i (i + 1) j).from_, ws l j (i + 1)⟩ := fun j => rfl
    have wsl := ws_len l l[i].Tx i
    -- the operation itself
    have main : m95_snap_Play_K4 l[i] (tab 20 (vers l K i)) (D.take i) (i : Int) (m95_snap_Play_L1 l n) (nc K i : Int) (tab 12 (stT l K i (i + 1))) = some (D, 0) := by
      have kx := opKinds hg h1
      have hT := tab_idx (f := stT l K i (i + 1)) ht0 (show l[i].Tx < (12 : Nat) by omega)
      have nov : K i = false → tab 20 (vers l K i) = tab 20 (vers l K (i + 1)) ∧ (nc K i : Int) = (nc K (i + 1) : Int) := by
        intro hk
        refine ⟨tab_ext fun it _ _ => ?_, ?_⟩
        · rw [vers_succ, if_neg (by simp [hk])]
        · rw [nc_succ, hk]; simp
      have noT : l[i].Kind ≠ 2 → tab 12 (stT l K i (i + 1)) = tab 12 (stT l K (i + 1) (i + 1)) := by
        intro hk
        apply tab_ext
        intro j _ _
        unfold stT
        rw [ws_same h1 hk]
      rw [m95_snap_Play_K4]
      by_cases c1 : l[i].Kind = 1
      · -- Read
        have hk0 : K i = false := by rw [hKi]; simp [c1]
        rw [if_pos c1, m95_snap_Play_K6, if_pos rfl, hT, bind1_some, tab_idxA hf.i0 (by have := hf.i1; omega), bind1_some, arrN_ok (tab_length _ _), bind1_some]
        have h3 := readLoop (vers l K i l[i].Item) (by have := vers_len l K i l[i].Item; omega) (stT l K i (i + 1) l[i].Tx) (tab 12 (stT l K i (i + 1))) l[i] (D.take i) (i : Int) (m95_snap_Play_L1 l n) (nc K i : Int) (tab 20 (vers l K i)) (vers l K i l[i].Item).length 0 (by omega) big (lt_big (by have := vers_len l K i l[i].Item; omega)) (-1)
        rw [show ((0 : Nat) : Int) = 0 from rfl, List.drop_zero] at h3
        rw [h3, m95_snap_Play_K13, m95_snap_Play_K12, hT, bind1_some, contains_eq _ _ (by show (ws l l[i].Tx i).length ≤ _; omega), bind1_some]
        have hfr : (stT l K i (i + 1) l[i].Tx).from_ = (nc K (bg l l[i].Tx) : Int) := if_pos hbg
        have hwr : decide (l[i].Item ∈ (stT l K i (i + 1) l[i].Tx).writes_) = wrB l i l[i].Tx l[i].Item := by
          rw [Bool.eq_iff_iff, decide_eq_true_iff]
          exact ws_mem l l[i].Tx l[i].Item i (by omega)
        rw [hwr, hfr]
        rw [if_pos c1, sfrom] at hs
        by_cases c2 : wrB l i l[i].Tx l[i].Item = true
        · rw [if_pos c2] at hs
          rw [if_pos c2, m95_snap_Play_K5]
          exact fin ⟨true, l[i].Tx⟩ _ _ _ hs.symm (noT (by omega)) (nov hk0).2 (nov hk0).1
        · rw [if_neg c2] at hs
          rw [if_neg c2, m95_snap_Play_K5]
          have h4 := fold_vers l K l[i] (cm K i) (-1) (fun c hc => (cm_mem.1 hc).2)
          have h5 : (vers l K i l[i].Item).foldl (fun out v => if v.at_ ≤ (nc K (bg l l[i].Tx) : Int) then v.by_ else out) (-1) = (cm K i).foldl (fromG l l[i]) (-1) := h4
          rw [h5]
          exact fin ⟨true, (cm K i).foldl (fromG l l[i]) (-1)⟩ _ _ _ hs.symm (noT (by omega)) (nov hk0).2 (nov hk0).1
      · rw [if_neg c1, m95_snap_Play_K6, if_neg ff]
        rw [if_neg c1] at hs
        by_cases c2 : l[i].Kind = 2
        · -- Write
          have hk0 : K i = false := by rw [hKi]; simp [c2]
          rw [if_pos c2, m95_snap_Play_K7, if_pos rfl, hT, bind1_some, contains_eq _ _ (by show (ws l l[i].Tx i).length ≤ _; omega), bind1_some]
          rw [if_neg (by omega)] at hs
          simp only [m95_snap_Play_K5]
          by_cases c3 : l[i].Item ∈ ws l l[i].Tx i
          · rw [if_pos (show decide (l[i].Item ∈ (stT l K i (i + 1) l[i].Tx).writes_) = true from decide_eq_true c3)]
            refine fin ⟨true, -1⟩ _ _ _ hs.symm ?_ (nov hk0).2 (nov hk0).1
            apply tab_ext
            intro j _ _
            rw [stw, ws, opN_at h1, if_neg (by
              rintro ⟨_, h5, h6⟩
              rw [← h5] at h6
              exact h6 c3)]
            rfl
          · rw [if_neg (show ¬ decide (l[i].Item ∈ (stT l K i (i + 1) l[i].Tx).writes_) = true from by rw [decide_eq_true_iff]; exact c3)]
            simp only [bind1_some]
            rw [app_ok (by show (ws l l[i].Tx i).length + _ ≤ _; simp; omega), bind1_some, tab_upd _ ht0 (by omega), bind1_some]
            refine fin ⟨true, -1⟩ _ _ _ hs.symm ?_ (nov hk0).2 (nov hk0).1
            apply tab_ext
            intro j _ _
            rw [stw, ws, opN_at h1]
            by_cases c4 : j = l[i].Tx
            · rw [if_pos c4, c4, if_pos ⟨c2, rfl, c3⟩]; rfl
            · rw [if_neg c4, if_neg (fun h => c4 h.2.1.symm)]; rfl
        · rw [if_neg c2, m95_snap_Play_K7, if_neg ff]
          by_cases c3 : l[i].Kind = 3
          · -- Commit
            rw [if_pos c3] at hs
            have h3 := clashLoop (ws l l[i].Tx i) (ws_range hg l[i].Tx (by omega)) (by omega) (vers l K i) (fun it => by have := vers_len l K i it; omega) (stT l K i (i + 1)) l[i] ⟨ht0, ht1⟩ (stT l K i (i + 1) l[i].Tx) rfl (D.take i) (i : Int) (m95_snap_Play_L1 l n) (nc K i : Int) (ws l l[i].Tx i).length 0 (by omega) big (lt_big (by omega))
            rw [show ((0 : Nat) : Int) = 0 from rfl, List.drop_zero] at h3
            have hfr : (stT l K i (i + 1) l[i].Tx).from_ = (nc K (bg l l[i].Tx) : Int) := if_pos hbg
            have hlo := lost_own hg D h1
            rw [hK] at hlo
            rw [hfr, hlo] at h3
            rw [if_pos c3, hT, bind1_some, h3]
            by_cases c4 : lostB l K i l[i].Tx = true
            · have hk0 : K i = false := by rw [hKi, hs, c4]; simp
              rw [c4] at hs
              rw [if_pos c4, m95_snap_Play_K8, m95_snap_Play_K5]
              exact fin ⟨false, -1⟩ _ _ _ hs.symm (noT c2) (nov hk0).2 (nov hk0).1
            · simp only [Bool.not_eq_true] at c4
              have hk1 : K i = true := by rw [hKi, hs, c4]; simp [c3]
              rw [c4] at hs
              have h5 := addLoop (ws l l[i].Tx i) (ws_range hg l[i].Tx (by omega)) (ws_nodup l l[i].Tx i) (by omega) l[i] ((nc K i + 1 : Nat) : Int) (stT l K i (i + 1) l[i].Tx) rfl (D.take i) (i : Int) (m95_snap_Play_L1 l n) (tab 12 (stT l K i (i + 1))) (ws l l[i].Tx i).length 0 (by omega) big (lt_big (by omega)) (vers l K i) (fun it => by have := vers_len l K i it; omega)
              rw [show ((0 : Nat) : Int) = 0 from rfl, List.drop_zero] at h5
              rw [if_neg (by simp [c4]), m95_snap_Play_K9, arrN_ok (tab_length _ _), bind1_some, isucc _ (by have := nc_le K i; omega), bind1_some, hT, bind1_some, h5, m95_snap_Play_K10, m95_snap_Play_K8, m95_snap_Play_K5]
              refine fin ⟨true, -1⟩ _ _ _ hs.symm (noT c2) (by rw [nc_succ, if_pos hk1]) ?_
              apply tab_ext
              intro it _ _
              rw [vers_succ, txN_at h1]
              by_cases c5 : wrB l i l[i].Tx it = true
              · rw [if_pos ((ws_mem l l[i].Tx it i (by omega)).2 c5), if_pos ⟨hk1, c5⟩, ver, txN_at h1]
                rfl
              · rw [if_neg (fun h => c5 ((ws_mem l l[i].Tx it i (by omega)).1 h)), if_neg (fun h => c5 h.2)]
          · -- Abort
            have hk0 : K i = false := by rw [hKi]; simp [c3]
            rw [if_neg c3] at hs
            rw [if_neg c3, m95_snap_Play_K5]
            exact fin ⟨true, -1⟩ _ _ _ hs.symm (noT c2) (nov hk0).2 (nov hk0).1
    rw [m95_snap_Play_L1, m95_snap_Play_L1B, if_pos (by omega), idx_ok h1, bind1_some, tab_idxA ht0 (by omega), bind1_some]
    by_cases cb : bg l l[i].Tx < i
    · rw [if_pos (show (stT l K i i l[i].Tx).began_ = true from decide_eq_true cb), begin_same h1 cb]
      exact main
    · rw [if_neg (show ¬ (stT l K i i l[i].Tx).began_ = true from by rw [stT]; simpa using cb), arrN_ok (tab_length _ _), bind1_some, tab_upd _ ht0 (by omega), bind1_some, begin_new hg h1 cb]
      exact main
theorem snap_eq (l : List TOp) (hg : Good l) (D : List TDid) (hD : D.length = l.length) (hsp : ∀ j, j < l.length → D[j]? = some (sp l false (okc l D) j)) : m95_snap_Play_K1 l = some (D, 0) := by
  have h := snapLoop l hg D hD hsp l.length 0 (by omega) big (lt_big (by have := hg.len; omega))
  rw [m95_snap_Play_K1, tab_repl, tab_repl]
  have e1 : tab 12 (fun _ => (⟨false, 0, []⟩ : Ttx)) = tab 12 (stT l (okc l D) 0 0) := by
    apply tab_ext
    intro j _ _
    simp [stT, ws]
  have e2 : tab 20 (fun _ => ([] : List Tversion)) = tab 20 (vers l (okc l D) 0) := rfl
  rw [e1, e2]
  exact h
end Go.Proofs.Ytfmgjigdebofaaa
