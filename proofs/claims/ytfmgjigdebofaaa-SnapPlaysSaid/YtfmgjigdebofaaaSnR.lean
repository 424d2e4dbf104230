/-
  Runs by snapshots: what the document's functions answer.
  Conditions: none.
-/
import Derived.Test.YtfmgjigdebofaaaSnC
namespace Go.Proofs.Ytfmgjigdebofaaa
open Go.S
set_option linter.unusedVariables false
set_option linter.unusedSimpArgs false

/-! ### Is an operation there -/
theorem idxLoop (l : List TOp) (q : TOp) (hl : l.length ≤ 1000000) : ∀ (r i : Nat), i + r = l.length → ∀ n, r < n →
    ∃ k : Int, m161_api_Op_L1 l q n (i : Int) = some k ∧ (0 ≤ k ↔ q ∈ l.drop i) := by
  intro r
  induction r with
  | zero =>
    intro i hi n hn
    obtain ⟨n, rfl⟩ := dec n hn
    rw [m161_api_Op_L1, m161_api_Op_L1B, if_neg (by omega), List.drop_eq_nil_of_le (by omega)]
    exact ⟨-1, rfl, by simp⟩
  | succ r ih =>
    intro i hi n hn
    obtain ⟨n, rfl⟩ := dec n (by omega)
    have h1 : i < l.length := by omega
    rw [m161_api_Op_L1, m161_api_Op_L1B, if_pos (by omega), idx_ok h1, bind1_some, isucc i (by omega), bind1_some, drop_cons h1]
    by_cases c : q = l[i]
    · rw [if_pos c]; exact ⟨i, rfl, ⟨fun _ => by rw [c]; exact List.mem_cons_self .., fun _ => by omega⟩⟩
    · rw [if_neg c]
      obtain ⟨k, h2, h3⟩ := ih (i + 1) (by omega) n (by omega)
      exact ⟨k, h2, by rw [h3, List.mem_cons]; simp [c]⟩
/-- Was an item written ahead of a place? -/
def wrB (l : List TOp) (c : Nat) (k it : Int) : Bool := decide ((⟨k, 2, it⟩ : TOp) ∈ l.take c)
theorem wrote_eq (l : List TOp) (c : Nat) (k it : Int) (hl : l.length ≤ 1000000) : m157_quirref_wrote (l.take c) k it = some (wrB l c k it) := by
  obtain ⟨j, h1, h2⟩ := idxLoop (l.take c) ⟨k, 2, it⟩ (by rw [List.length_take]; omega) (l.take c).length 0 (by omega) big (lt_big (by rw [List.length_take]; omega))
  rw [m157_quirref_wrote, m148_api_Op, m161_api_Op]
  rw [show ((0 : Nat) : Int) = 0 from rfl, List.drop_zero] at *
  rw [h1, bind1_some, bind1_some]
  congr 1
  rw [wrB, decide_eq_decide]
  exact h2

/-! ### Where a transaction begins -/
def bg (l : List TOp) (k : Int) : Nat := l.findIdx fun o => decide (o.Tx = k)
theorem bg_cons (o : TOp) (l : List TOp) (k : Int) : bg (o :: l) k = if o.Tx = k then 0 else bg l k + 1 := by
  unfold bg
  rw [List.findIdx_cons]
  by_cases c : o.Tx = k <;> simp [c]
theorem bg_le {l : List TOp} {i : Nat} {k : Int} (h : i < l.length) (hk : l[i].Tx = k) : bg l k ≤ i := by
  by_cases c : i < bg l k
  · have := List.not_of_lt_findIdx c
    simp [hk] at this
  · omega
theorem bg_lt {l : List TOp} {i : Nat} {k : Int} (h : i < l.length) (hk : l[i].Tx = k) : bg l k < l.length := Nat.lt_of_le_of_lt (bg_le h hk) h
theorem bg_at {l : List TOp} {k : Int} (h : bg l k < l.length) : l[bg l k].Tx = k := by
  have h2 : decide (l[bg l k].Tx = k) = true := List.findIdx_getElem (xs := l) (p := fun o : TOp => decide (o.Tx = k)) (w := h)
  simpa using h2
theorem nthLoop (l : List TOp) (k : Int) (hl : l.length ≤ 200) : ∀ (r i : Nat), i + r = l.length → ∀ n, r < n →
    m166_quirref_nth_L1 l k n 0 (i : Int) = some (if bg (l.drop i) k < r then ((i + bg (l.drop i) k : Nat) : Int) else -1) := by
  intro r
  induction r with
  | zero =>
    intro i hi n hn
    obtain ⟨n, rfl⟩ := dec n hn
    rw [m166_quirref_nth_L1, m166_quirref_nth_L1B, if_neg (by omega), if_neg (by omega)]
    rfl
  | succ r ih =>
    intro i hi n hn
    obtain ⟨n, rfl⟩ := dec n (by omega)
    have h1 : i < l.length := by omega
    rw [m166_quirref_nth_L1, m166_quirref_nth_L1B, if_pos (by omega), idx_ok h1, bind1_some, drop_cons h1, bg_cons]
    by_cases c : l[i].Tx = k
    · rw [if_neg (by simpa using c), if_pos rfl, if_pos c, if_pos (by omega)]
      simp
    · rw [if_pos c, m166_quirref_nth_K2, isucc i (by omega), bind1_some, ih (i + 1) (by omega) n (by omega), if_neg c]
      by_cases c2 : bg (l.drop (i + 1)) k < r
      · rw [if_pos c2, if_pos (by omega)]; congr 2; omega
      · rw [if_neg c2, if_neg (by omega)]
theorem begins_eq {l : List TOp} {k : Int} (hl : l.length ≤ 200) (hk : bg l k < l.length) : m159_quirref_begins l k = some (bg l k : Int) := by
  have h := nthLoop l k hl l.length 0 (by omega) big (lt_big (by omega))
  rw [List.drop_zero, if_pos hk, Nat.zero_add] at h
  rw [m159_quirref_begins, m166_quirref_nth]
  rw [show ((0 : Nat) : Int) = 0 from rfl] at h
  rw [h, bind1_some]

/-! ### What has committed -/
def okc (l : List TOp) (d : List TDid) (c : Nat) : Bool := match l[c]?, d[c]? with
  | some o, some e => decide (o.Kind = 3) && e.OK
  | _, _ => false
theorem okc_at {l : List TOp} {d : List TDid} {c : Nat} (h1 : c < l.length) (h2 : c < d.length) : okc l d c = (decide (l[c].Kind = 3) && d[c].OK) := by
  unfold okc
  rw [List.getElem?_eq_getElem h1, List.getElem?_eq_getElem h2]
def cm (K : Nat → Bool) (i : Nat) : List Nat := (List.range i).filter K
def ints (s : List Nat) : List Int := s.map fun c : Nat => (c : Int)
theorem ints_len (s : List Nat) : (ints s).length = s.length := by simp [ints]
theorem ints_idx {s : List Nat} {j : Nat} (h : j < s.length) : idx (ints s) (j : Int) = some (s[j] : Int) := by
  rw [idx_ok (by rw [ints_len]; exact h)]
  simp [ints]
theorem cm_succ (K : Nat → Bool) (i : Nat) : cm K (i + 1) = cm K i ++ if K i = true then [i] else [] := by
  unfold cm
  rw [List.range_succ, List.filter_append]
  by_cases c : K i = true
  · rw [if_pos c]; simp [c]
  · rw [if_neg c]; simp [c]
theorem cm_mem {K : Nat → Bool} {i c : Nat} : c ∈ cm K i ↔ c < i ∧ K c = true := by simp [cm]
theorem cm_len (K : Nat → Bool) (i : Nat) : (cm K i).length ≤ i := by
  have := List.length_filter_le K (List.range i)
  rwa [List.length_range] at this
theorem cm_congr {K K' : Nat → Bool} {i : Nat} (h : ∀ c, c < i → K c = K' c) : cm K i = cm K' i := List.filter_congr fun c hc => h c (List.mem_range.1 hc)
theorem commitsLoop (l : List TOp) (d : List TDid) (hl : l.length ≤ 200) (hd : d.length ≤ l.length) : ∀ (r i : Nat), i + r = d.length → ∀ n, r < n →
    m158_quirref_commits_L1 d l n (ints (cm (okc l d) i)) (i : Int) = some (ints (cm (okc l d) d.length)) := by
  intro r
  induction r with
  | zero =>
    intro i hi n hn
    obtain ⟨n, rfl⟩ := dec n hn
    rw [m158_quirref_commits_L1, m158_quirref_commits_L1B, if_neg (by omega), show d.length = i by omega]
    rfl
  | succ r ih =>
    intro i hi n hn
    obtain ⟨n, rfl⟩ := dec n (by omega)
    have h1 : i < d.length := by omega
    have h2 : i < l.length := by omega
    have h3 := ih (i + 1) (by omega) n (by omega)
    rw [cm_succ, okc_at h2 h1] at h3
    rw [m158_quirref_commits_L1, m158_quirref_commits_L1B, if_pos (by omega), idx_ok h1, bind1_some, idx_ok h2, bind1_some, isucc i (by omega)]
    simp only [bind1_some]
    by_cases c1 : l[i].Kind = 3
    · by_cases c2 : d[i].OK = true
      · rw [if_pos c1, if_pos c2, app_ok (by rw [ints_len]; have := cm_len (okc l d) i; simp; omega), bind1_some]
        simpa [c1, c2, ints] using h3
      · rw [if_pos c1, if_neg c2]
        simpa [c1, c2] using h3
    · rw [if_neg c1]
      simpa [c1] using h3
theorem commits_eq (l : List TOp) (d : List TDid) (hl : l.length ≤ 200) (hd : d.length ≤ l.length) : m158_quirref_commits l d = some (ints (cm (okc l d) d.length)) := by
  have := commitsLoop l d hl hd d.length 0 (by omega) big (lt_big (by omega))
  exact this

/-! ### Whom a Read reads -/
def txN (l : List TOp) (c : Nat) : Int := match l[c]? with
  | some o => o.Tx
  | none => 0
theorem txN_at {l : List TOp} {c : Nat} (h : c < l.length) : txN l c = l[c].Tx := by
  unfold txN
  rw [List.getElem?_eq_getElem h]
def fromG (l : List TOp) (o : TOp) (out : Int) (c : Nat) : Int := if c < bg l o.Tx then if wrB l c (txN l c) o.Item = true then txN l c else out else out
theorem fromLoop (l : List TOp) (hl : l.length ≤ 200) (o : TOp) (ho : bg l o.Tx < l.length) (s : List Nat) (hs : ∀ c ∈ s, c < l.length) (hsl : s.length ≤ 200) : ∀ (r j : Nat), j + r = s.length → ∀ n, r < n → ∀ out,
    m141_quirref_snapFrom_L1 (ints s) l o n out (j : Int) = some ((s.drop j).foldl (fromG l o) out) := by
  intro r
  induction r with
  | zero =>
    intro j hj n hn out
    obtain ⟨n, rfl⟩ := dec n hn
    rw [m141_quirref_snapFrom_L1, m141_quirref_snapFrom_L1B, ints_len, if_neg (by omega), List.drop_eq_nil_of_le (by omega)]
    rfl
  | succ r ih =>
    intro j hj n hn out
    obtain ⟨n, rfl⟩ := dec n (by omega)
    have h1 : j < s.length := by omega
    have h2 : s[j] < l.length := hs _ (List.getElem_mem h1)
    rw [m141_quirref_snapFrom_L1, m141_quirref_snapFrom_L1B, ints_len, if_pos (by omega), ints_idx h1, bind1_some, begins_eq hl ho, bind1_some, drop_cons h1, List.foldl_cons, isucc j (by omega), cut_take _ _ (by omega), idx_ok h2]
    simp only [bind1_some]
    rw [wrote_eq _ _ _ _ (by omega), bind1_some]
    simp only [ih (j + 1) (by omega) n (by omega)]
    unfold fromG
    rw [txN_at h2]
    by_cases c1 : s[j] < bg l o.Tx
    · rw [if_pos (by omega), if_pos c1]
      by_cases c2 : wrB l s[j] l[s[j]].Tx o.Item = true
      · rw [if_pos c2, if_pos c2]
      · rw [if_neg c2, if_neg c2]
    · rw [if_neg (by omega), if_neg c1]
def sfrom (l : List TOp) (K : Nat → Bool) (i : Nat) (o : TOp) : Int := if wrB l i o.Tx o.Item = true then o.Tx else (cm K i).foldl (fromG l o) (-1)
theorem from_eq (l : List TOp) (hl : l.length ≤ 200) (d : List TDid) (i : Nat) (hd : d.length = i) (hi : i < l.length) : m141_quirref_snapFrom l d (i : Int) = some (sfrom l (okc l d) i l[i]) := by
  rw [m141_quirref_snapFrom, idx_ok hi, bind1_some, cut_take _ _ (by omega), bind1_some, wrote_eq _ _ _ _ (by omega), bind1_some, sfrom]
  by_cases c : wrB l i l[i].Tx l[i].Item = true
  · rw [if_pos c, if_pos c]
  · rw [if_neg c, if_neg c, m141_quirref_snapFrom_K1, commits_eq l d hl (by omega), bind1_some, hd]
    have hl2 := cm_len (okc l d) i
    exact fromLoop l hl l[i] (bg_lt hi rfl) (cm (okc l d) i) (fun c hc => by have := (cm_mem.1 hc).1; omega) (by omega) (cm (okc l d) i).length 0 (by omega) big (lt_big (by omega)) (-1)
theorem fold_ne (l : List TOp) (o : TOp) (ho : bg l o.Tx < l.length) : ∀ (s : List Nat) (out : Int), (∀ c ∈ s, c < l.length) → out ≠ o.Tx → s.foldl (fromG l o) out ≠ o.Tx
  | [], out, _, h => h
  | c :: s, out, hs, h => by
    rw [List.foldl_cons]
    refine fold_ne l o ho s _ (fun c hc => hs c (by simp [hc])) ?_
    unfold fromG
    split
    · rename_i h1
      split
      · have h2 := hs c (by simp)
        rw [txN_at h2]
        intro h3
        have := bg_le h2 h3
        omega
      · exact h
    · exact h
theorem sfrom_ne {l : List TOp} {K : Nat → Bool} {i : Nat} (hi : i < l.length) (h0 : 0 ≤ l[i].Tx) : sfrom l K i l[i] ≠ l[i].Tx ↔ wrB l i l[i].Tx l[i].Item = false := by
  unfold sfrom
  by_cases c : wrB l i l[i].Tx l[i].Item = true
  · rw [if_pos c]; simp [c]
  · rw [if_neg c]
    refine ⟨fun _ => by simpa using c, fun _ => ?_⟩
    exact fold_ne l l[i] (bg_lt hi rfl) _ _ (fun c hc => by have := (cm_mem.1 hc).1; omega) (by omega)

/-! ### Would a write be lost -/
def lostP (l : List TOp) (k : Int) (i c it : Nat) : Bool := decide (bg l k < c) && wrB l c (txN l c) it && wrB l i k it
theorem lostLoop2 (l : List TOp) (hl : l.length ≤ 200) (o : TOp) (ho : bg l o.Tx < l.length) (c i : Nat) (hc : c < l.length) (hi : i ≤ l.length) (gx1 : Int) (go1 : Int → Option Bool) : ∀ (r j : Nat), j + r = 20 → ∀ n, r < n →
    m142_quirref_lost_L2 l o (c : Int) (i : Int) gx1 go1 n (j : Int) = if (List.range' j r).any (lostP l o.Tx i c) = true then some true else m142_quirref_lost_K2 gx1 go1 := by
  intro r
  induction r with
  | zero =>
    intro j hj n hn
    obtain ⟨n, rfl⟩ := dec n hn
    rw [m142_quirref_lost_L2, m142_quirref_lost_L2B, if_neg (by omega)]
    simp
  | succ r ih =>
    intro j hj n hn
    obtain ⟨n, rfl⟩ := dec n (by omega)
    rw [m142_quirref_lost_L2, m142_quirref_lost_L2B, if_pos (by omega), begins_eq hl ho, bind1_some, List.range'_succ, List.any_cons, cut_take _ _ (by omega), idx_ok hc]
    simp only [bind1_some, m142_quirref_lost_K3]
    rw [wrote_eq _ _ _ _ (by omega), bind1_some, cut_take _ _ hi, isucc j (by omega)]
    simp only [bind1_some]
    rw [wrote_eq _ _ _ _ (by omega), bind1_some, ih (j + 1) (by omega) n (by omega)]
    have hP : lostP l o.Tx i c j = (decide (bg l o.Tx < c) && wrB l c l[c].Tx (j : Int) && wrB l i o.Tx (j : Int)) := by rw [lostP, txN_at hc]
    rw [hP]
    generalize (List.range' (j + 1) r).any (lostP l o.Tx i c) = q
    generalize wrB l c l[c].Tx (j : Int) = p2
    generalize wrB l i o.Tx (j : Int) = p3
    by_cases c1 : bg l o.Tx < c
    · rw [if_pos (by omega), decide_eq_true c1]
      cases p2 <;> cases p3 <;> cases q <;> rfl
    · rw [if_neg (by omega), decide_eq_false c1]
      cases p2 <;> cases p3 <;> cases q <;> rfl
theorem lostLoop1 (l : List TOp) (hl : l.length ≤ 200) (o : TOp) (ho : bg l o.Tx < l.length) (i : Nat) (hi : i ≤ l.length) (s : List Nat) (hs : ∀ c ∈ s, c < l.length) (hsl : s.length ≤ 200) : ∀ (r j : Nat), j + r = s.length → ∀ n, r < n →
    m142_quirref_lost_L1 (ints s) l o (i : Int) n (j : Int) = some ((s.drop j).any fun c => (List.range' 0 20).any (lostP l o.Tx i c)) := by
  intro r
  induction r with
  | zero =>
    intro j hj n hn
    obtain ⟨n, rfl⟩ := dec n hn
    rw [m142_quirref_lost_L1, m142_quirref_lost_L1B, ints_len, if_neg (by omega), List.drop_eq_nil_of_le (by omega)]
    rfl
  | succ r ih =>
    intro j hj n hn
    obtain ⟨n, rfl⟩ := dec n (by omega)
    have h1 : j < s.length := by omega
    have h2 : s[j] < l.length := hs _ (List.getElem_mem h1)
    have h3 := lostLoop2 l hl o ho s[j] i h2 hi (j : Int) (m142_quirref_lost_L1 (ints s) l o (i : Int) n) 20 0 (by omega) big (lt_big (by omega))
    rw [show ((0 : Nat) : Int) = 0 from rfl] at h3
    rw [m142_quirref_lost_L1, m142_quirref_lost_L1B, ints_len, if_pos (by omega), ints_idx h1, bind1_some, h3, m142_quirref_lost_K2, isucc j (by omega), bind1_some, ih (j + 1) (by omega) n (by omega), drop_cons h1, List.any_cons]
    by_cases c : (List.range' 0 20).any (lostP l o.Tx i s[j]) = true
    · rw [if_pos c, c]; rfl
    · rw [if_neg c]
      simp only [Bool.not_eq_true] at c
      rw [c]; rfl
def lostB (l : List TOp) (K : Nat → Bool) (i : Nat) (k : Int) : Bool := (cm K i).any fun c => (List.range' 0 20).any (lostP l k i c)
theorem lost_eq (l : List TOp) (hl : l.length ≤ 200) (d : List TDid) (i : Nat) (hd : d.length = i) (hi : i < l.length) : m142_quirref_lost l d (i : Int) = some (lostB l (okc l d) i l[i].Tx) := by
  have hl2 := cm_len (okc l d) i
  rw [m142_quirref_lost, idx_ok hi, bind1_some, commits_eq l d hl (by omega), bind1_some, hd]
  exact lostLoop1 l hl l[i] (bg_lt hi rfl) i (by omega) (cm (okc l d) i) (fun c hc => by have := (cm_mem.1 hc).1; omega) (by omega) (cm (okc l d) i).length 0 (by omega) big (lt_big (by omega))

/-! ### Who skips whom -/
def opN (l : List TOp) (c : Nat) : TOp := match l[c]? with
  | some o => o
  | none => ⟨0, 0, 0⟩
theorem opN_at {l : List TOp} {c : Nat} (h : c < l.length) : opN l c = l[c] := by
  unfold opN
  rw [List.getElem?_eq_getElem h]
/-- Does the transaction x read at j something that is not its own, that y writes ahead of b? -/
def rdP (l : List TOp) (x y : Int) (b j : Nat) : Bool := decide ((opN l j).Kind = 1) && decide ((opN l j).Tx = x) && !wrB l j x (opN l j).Item && wrB l b y (opN l j).Item
theorem skLoop (l : List TOp) (hl : l.length ≤ 200) (d : List TDid) (a b : Nat) (ha : a ≤ d.length) (hd : d.length ≤ l.length) (hb : b ≤ l.length) (x y : TOp)
    (hfr : ∀ j (h : j < d.length) (h2 : j < l.length), l[j].Kind = 1 → (d[j].From ≠ l[j].Tx ↔ wrB l j l[j].Tx l[j].Item = false)) : ∀ (r j : Nat), j + r = a → ∀ n, r < n →
    m160_quirref_skips_L1 (l.take a) x d l (b : Int) y n (j : Int) = some ((List.range' j r).any (rdP l x.Tx y.Tx b)) := by
  intro r
  induction r with
  | zero =>
    intro j hj n hn
    obtain ⟨n, rfl⟩ := dec n hn
    rw [m160_quirref_skips_L1, m160_quirref_skips_L1B, List.length_take, if_neg (by omega)]
    rfl
  | succ r ih =>
    intro j hj n hn
    obtain ⟨n, rfl⟩ := dec n (by omega)
    have h1 : j < l.length := by omega
    have h2 : j < d.length := by omega
    have h3 : j < (l.take a).length := by rw [List.length_take]; omega
    rw [m160_quirref_skips_L1, m160_quirref_skips_L1B, if_pos (by omega), idx_ok h3, bind1_some, List.range'_succ, List.any_cons, List.getElem_take]
    simp only [m160_quirref_skips_K3]
    rw [idx_ok h2, bind1_some, cut_take _ _ hb, bind1_some, wrote_eq _ _ _ _ (by omega), bind1_some, isucc j (by omega)]
    simp only [bind1_some]
    rw [ih (j + 1) (by omega) n (by omega)]
    have hf := hfr j h2 h1
    unfold rdP
    rw [opN_at h1]
    by_cases c1 : l[j].Kind = 1
    · rw [if_pos c1]
      by_cases c2 : l[j].Tx = x.Tx
      · rw [if_pos c2]
        rw [c2] at hf
        by_cases c3 : wrB l j x.Tx l[j].Item = true
        · have : ¬ d[j].From ≠ x.Tx := fun h => by have := (hf c1).1 h; rw [c3] at this; cases this
          simp [c1, c2, c3, this]
        · simp only [Bool.not_eq_true] at c3
          have : d[j].From ≠ x.Tx := (hf c1).2 c3
          by_cases c4 : wrB l b y.Tx l[j].Item = true
          · simp [c1, c2, c3, this, c4]
          · simp [c1, c2, c3, this, c4]
      · rw [if_neg c2]
        simp [c2]
    · rw [if_neg c1]
      simp [c1]
def rsk (l : List TOp) (a b : Nat) : Bool := !decide (b < bg l (txN l a)) && !decide (a < bg l (txN l b)) && (List.range' 0 a).any (rdP l (txN l a) (txN l b) b)
theorem skips_eq (l : List TOp) (hl : l.length ≤ 200) (d : List TDid) (a b : Nat) (ha : a ≤ d.length) (hd : d.length ≤ l.length) (ha2 : a < l.length) (hb : b < l.length)
    (hfr : ∀ j (h : j < d.length) (h2 : j < l.length), l[j].Kind = 1 → (d[j].From ≠ l[j].Tx ↔ wrB l j l[j].Tx l[j].Item = false)) : m160_quirref_skips l d (a : Int) (b : Int) = some (rsk l a b) := by
  have h := skLoop l hl d a b ha hd (by omega) l[a] l[b] hfr a 0 (by omega) big (lt_big (by omega))
  rw [show ((0 : Nat) : Int) = 0 from rfl] at h
  rw [m160_quirref_skips, idx_ok ha2, bind1_some, idx_ok hb, bind1_some, begins_eq hl (bg_lt ha2 rfl), bind1_some, begins_eq hl (bg_lt hb rfl), bind1_some, m160_quirref_skips_K1, cut_take _ _ (by omega), bind1_some, h, rsk, txN_at ha2, txN_at hb]
  by_cases c1 : b < bg l l[a].Tx
  · rw [if_pos (by omega)]; simp [c1]
  · rw [if_neg (by omega)]
    by_cases c2 : a < bg l l[b].Tx
    · rw [if_pos (by omega)]; simp [c2]
    · rw [if_neg (by omega)]; simp [c1, c2]

/-! ### Who stands between -/
def inB (l : List TOp) (s : List Nat) (b : Nat) : Bool := s.any fun a => !decide (a = b) && rsk l a b
def outB (l : List TOp) (s : List Nat) (b : Nat) : Bool := s.any fun a => !decide (a = b) && rsk l b a
theorem btwLoop2 (l : List TOp) (hl : l.length ≤ 200) (d : List TDid) (hd : d.length ≤ l.length) (s : List Nat) (hs : ∀ c ∈ s, c < l.length ∧ c ≤ d.length) (hsl : s.length ≤ 201) (b : Nat) (hb : b < l.length ∧ b ≤ d.length) (gx1 : Int) (go1 : Int → Option Bool)
    (hfr : ∀ j (h : j < d.length) (h2 : j < l.length), l[j].Kind = 1 → (d[j].From ≠ l[j].Tx ↔ wrB l j l[j].Tx l[j].Item = false)) : ∀ (r j : Nat), j + r = s.length → ∀ n, r < n → ∀ p q : Bool,
    m143_quirref_between_L2 (ints s) (b : Int) l d gx1 go1 n p q (j : Int) = m143_quirref_between_K3 gx1 go1 (p || inB l (s.drop j) b) (q || outB l (s.drop j) b) := by
  intro r
  induction r with
  | zero =>
    intro j hj n hn p q
    obtain ⟨n, rfl⟩ := dec n hn
    rw [m143_quirref_between_L2, m143_quirref_between_L2B, ints_len, if_neg (by omega), List.drop_eq_nil_of_le (by omega)]
    simp [inB, outB]
  | succ r ih =>
    intro j hj n hn p q
    obtain ⟨n, rfl⟩ := dec n (by omega)
    have h1 : j < s.length := by omega
    have h2 := hs _ (List.getElem_mem h1)
    have hin : inB l (s.drop j) b = ((!decide (s[j] = b) && rsk l s[j] b) || inB l (s.drop (j + 1)) b) := by rw [drop_cons h1]; rfl
    have hou : outB l (s.drop j) b = ((!decide (s[j] = b) && rsk l b s[j]) || outB l (s.drop (j + 1)) b) := by rw [drop_cons h1]; rfl
    rw [m143_quirref_between_L2, m143_quirref_between_L2B, ints_len, if_pos (by omega), ints_idx h1, bind1_some, hin, hou, isucc j (by omega)]
    simp only [m143_quirref_between_K4, m143_quirref_between_K5, m143_quirref_between_K6, isucc j (show j < 9223372036854775807 by omega), bind1_some, ih (j + 1) (by omega) n (by omega),
      skips_eq l hl d s[j] b h2.2 hd h2.1 hb.1 hfr, skips_eq l hl d b s[j] hb.2 hd hb.1 h2.1 hfr]
    by_cases c : s[j] = b
    · rw [if_neg (by omega)]
      simp [c]
    · rw [if_pos (by omega)]
      simp only [c, decide_false, Bool.not_false, Bool.true_and]
      cases p <;> cases q <;> cases rsk l s[j] b <;> cases rsk l b s[j] <;> simp
def btwS (l : List TOp) (s : List Nat) : Bool := s.any fun b => inB l s b && outB l s b
theorem btwLoop1 (l : List TOp) (hl : l.length ≤ 200) (d : List TDid) (hd : d.length ≤ l.length) (s : List Nat) (hs : ∀ c ∈ s, c < l.length ∧ c ≤ d.length) (hsl : s.length ≤ 201)
    (hfr : ∀ j (h : j < d.length) (h2 : j < l.length), l[j].Kind = 1 → (d[j].From ≠ l[j].Tx ↔ wrB l j l[j].Tx l[j].Item = false)) : ∀ (r j : Nat), j + r = s.length → ∀ n, r < n →
    m143_quirref_between_L1 (ints s) l d n (j : Int) = some ((s.drop j).any fun b => inB l s b && outB l s b) := by
  intro r
  induction r with
  | zero =>
    intro j hj n hn
    obtain ⟨n, rfl⟩ := dec n hn
    rw [m143_quirref_between_L1, m143_quirref_between_L1B, ints_len, if_neg (by omega), List.drop_eq_nil_of_le (by omega)]
    rfl
  | succ r ih =>
    intro j hj n hn
    obtain ⟨n, rfl⟩ := dec n (by omega)
    have h1 : j < s.length := by omega
    have h3 := btwLoop2 l hl d hd s hs hsl s[j] (hs _ (List.getElem_mem h1)) (j : Int) (m143_quirref_between_L1 (ints s) l d n) hfr s.length 0 (by omega) big (lt_big (by omega)) false false
    rw [show ((0 : Nat) : Int) = 0 from rfl, List.drop_zero] at h3
    rw [m143_quirref_between_L1, m143_quirref_between_L1B, ints_len, if_pos (by omega), ints_idx h1, bind1_some, h3, m143_quirref_between_K3, m143_quirref_between_K2, isucc j (by omega), bind1_some, ih (j + 1) (by omega) n (by omega), drop_cons h1, List.any_cons]
    cases inB l s s[j] <;> cases outB l s s[j] <;> simp
def btw (l : List TOp) (K : Nat → Bool) (i : Nat) : Bool := btwS l (cm K i ++ [i])
theorem btw_eq (l : List TOp) (hl : l.length ≤ 200) (d : List TDid) (i : Nat) (hd : d.length = i) (hi : i < l.length)
    (hfr : ∀ j (h : j < d.length) (h2 : j < l.length), l[j].Kind = 1 → (d[j].From ≠ l[j].Tx ↔ wrB l j l[j].Tx l[j].Item = false)) : m143_quirref_between l d (i : Int) = some (btw l (okc l d) i) := by
  have hl2 := cm_len (okc l d) i
  have he : ints (cm (okc l d) i) ++ [(i : Int)] = ints (cm (okc l d) i ++ [i]) := by simp [ints]
  rw [m143_quirref_between, commits_eq l d hl (by omega), bind1_some, hd, app_ok (by rw [ints_len]; simp; omega), bind1_some, he]
  refine btwLoop1 l hl d (by omega) (cm (okc l d) i ++ [i]) ?_ (by simp; omega) hfr (cm (okc l d) i ++ [i]).length 0 (by omega) big (lt_big (by simp; omega))
  intro c hc
  rcases List.mem_append.1 hc with h | h
  · have := (cm_mem.1 h).1; omega
  · have : c = i := by simpa using h
    omega

/-! ### What is told -/
def sp (l : List TOp) (b : Bool) (K : Nat → Bool) (i : Nat) : TDid :=
  if (opN l i).Kind = 1 then ⟨true, sfrom l K i (opN l i)⟩ else if (opN l i).Kind = 3 then ⟨!lostB l K i (opN l i).Tx && !(b && btw l K i), -1⟩ else ⟨true, -1⟩
theorem sp_congr {l : List TOp} {b : Bool} {K K' : Nat → Bool} {i : Nat} (h : ∀ c, c < i → K c = K' c) : sp l b K i = sp l b K' i := by
  unfold sp sfrom lostB btw
  rw [cm_congr h]
theorem okc_app {l : List TOp} {d : List TDid} {e : TDid} {c : Nat} (h : c < d.length) : okc l (d ++ [e]) c = okc l d c := by
  unfold okc
  rw [List.getElem?_append_left h]
theorem refLoop (l : List TOp) (hg : Good l) (b : Bool) : ∀ (r i : Nat), i + r = l.length → ∀ d : List TDid, d.length = i → (∀ j, j < i → d[j]? = some (sp l b (okc l d) j)) → ∀ n, r < n →
    ∃ D, m98_quirref_Snap_L1 l b n d (i : Int) = some D ∧ D.length = l.length ∧ ∀ j, j < l.length → D[j]? = some (sp l b (okc l D) j) := by
  have hl := hg.len
  intro r
  induction r with
  | zero =>
    intro i hi d hd hsp n hn
    obtain ⟨n, rfl⟩ := dec n hn
    rw [m98_quirref_Snap_L1, m98_quirref_Snap_L1B, if_neg (by omega)]
    exact ⟨d, rfl, by omega, fun j hj => hsp j (by omega)⟩
  | succ r ih =>
    intro i hi d hd hsp n hn
    obtain ⟨n, rfl⟩ := dec n (by omega)
    have h1 : i < l.length := by omega
    have hfr : ∀ j (h : j < d.length) (h2 : j < l.length), l[j].Kind = 1 → (d[j].From ≠ l[j].Tx ↔ wrB l j l[j].Tx l[j].Item = false) := by
      intro j h h2 hk
      have h3 := hsp j (by omega)
      rw [List.getElem?_eq_getElem h, Option.some.injEq] at h3
      rw [h3, sp, opN_at h2, if_pos hk]
      exact sfrom_ne h2 (hg.fine j h2).t0
    have key : ∃ D, m98_quirref_Snap_L1 l b n (d ++ [sp l b (okc l d) i]) ((i + 1 : Nat) : Int) = some D ∧ D.length = l.length ∧ ∀ j, j < l.length → D[j]? = some (sp l b (okc l D) j) := by
      refine ih (i + 1) (by omega) (d ++ [sp l b (okc l d) i]) (by simp [hd]) (fun j hj => ?_) n (by omega)
      have e1 : sp l b (okc l (d ++ [sp l b (okc l d) i])) j = sp l b (okc l d) j := sp_congr fun c hc => okc_app (by omega)
      rw [e1]
      by_cases c : j < i
      · rw [List.getElem?_append_left (by omega)]; exact hsp j c
      · have : j = i := by omega
        subst this
        rw [List.getElem?_append_right (by omega), hd]; simp
    have fin : ∀ e : TDid, e = sp l b (okc l d) i → bind1 (app d [e]) (fun l7 => bind1 (i64 ((i : Int) + 1)) fun x8 => m98_quirref_Snap_L1 l b n l7 x8) = m98_quirref_Snap_L1 l b n (d ++ [sp l b (okc l d) i]) ((i + 1 : Nat) : Int) := by
      intro e he
      rw [he, app_ok (by simp; omega), bind1_some, isucc i (by omega), bind1_some]
    rw [m98_quirref_Snap_L1, m98_quirref_Snap_L1B, if_pos (by omega), idx_ok h1, bind1_some, from_eq l hl d i hd h1, bind1_some, lost_eq l hl d i hd h1, bind1_some, btw_eq l hl d i hd h1 hfr, bind1_some]
    simp only [m98_quirref_Snap_K3, m98_quirref_Snap_K2]
    have hs : sp l b (okc l d) i = if l[i].Kind = 1 then ⟨true, sfrom l (okc l d) i l[i]⟩ else if l[i].Kind = 3 then ⟨!lostB l (okc l d) i l[i].Tx && !(b && btw l (okc l d) i), -1⟩ else ⟨true, -1⟩ := by rw [sp, opN_at h1]
    by_cases c1 : l[i].Kind = 1
    · rw [if_pos c1, fin _ (by rw [hs, if_pos c1])]
      exact key
    · rw [if_neg c1]
      rw [if_neg c1] at hs
      by_cases c2 : l[i].Kind = 3
      · rw [if_pos c2]
        rw [if_pos c2] at hs
        by_cases c3 : lostB l (okc l d) i l[i].Tx = true
        · rw [if_pos c3, fin _ (by rw [hs, c3]; rfl)]
          exact key
        · rw [if_neg c3]
          simp only [Bool.not_eq_true] at c3
          rw [c3] at hs
          by_cases c4 : b = true
          · rw [if_pos c4, fin _ (by rw [hs, c4]; simp)]
            exact key
          · rw [if_neg c4, fin _ (by rw [hs]; simp [c4])]
            exact key
      · rw [if_neg c2, fin _ (by rw [hs, if_neg c2])]
        exact key
theorem ref_snap (l : List TOp) (hg : Good l) (b : Bool) : ∃ D, m98_quirref_Snap l b = some D ∧ D.length = l.length ∧ ∀ j, j < l.length → D[j]? = some (sp l b (okc l D) j) :=
  refLoop l hg b l.length 0 (by omega) [] rfl (by omega) big (lt_big (by have := hg.len; omega))
end Go.Proofs.Ytfmgjigdebofaaa
