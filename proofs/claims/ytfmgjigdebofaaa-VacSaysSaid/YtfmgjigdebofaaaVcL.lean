/-
  Package vac: what the models say.
  Conditions: none.
-/
import Derived.Test.YtfmgjigdebofaaaVcM
namespace Go.Proofs.Ytfmgjigdebofaaa
open Go.S
set_option linter.unusedVariables false
set_option linter.unusedSimpArgs false
theorem dec (n : Nat) (h : 0 < n) : ∃ q, n = q + 1 := ⟨n - 1, by omega⟩
theorem isucc (i : Nat) (h : i < 9223372036854775807) : i64 ((i : Int) + 1) = some ((i + 1 : Nat) : Int) := by rw [i64_ok (by omega) (by omega)]; rfl

/-! ### Check -/
theorem active_eq (a : List Int) (now : Int) (hl : a.length ≤ 12) : ∀ (r i : Nat), i + r = a.length → ∀ n n', r < n → r < n' →
    ∃ e, m48_vac_Check_L1 a now n (i : Int) = some e ∧ m44_quirref_VacErr_L1 a now n' (i : Int) = some e := by
  intro r
  induction r with
  | zero =>
    intro i hi n n' hn hn'
    obtain ⟨n, rfl⟩ := dec n hn
    obtain ⟨n', rfl⟩ := dec n' hn'
    rw [m48_vac_Check_L1, m48_vac_Check_L1B, m44_quirref_VacErr_L1, m44_quirref_VacErr_L1B, if_neg (by omega), if_neg (by omega)]
    exact ⟨_, rfl, rfl⟩
  | succ r ih =>
    intro i hi n n' hn hn'
    obtain ⟨n, rfl⟩ := dec n (by omega)
    obtain ⟨n', rfl⟩ := dec n' (by omega)
    have h1 : i < a.length := by omega
    rw [m48_vac_Check_L1, m48_vac_Check_L1B, m44_quirref_VacErr_L1, m44_quirref_VacErr_L1B, if_pos (by omega), if_pos (by omega), idx_ok h1, bind1_some, bind1_some, isucc i (by omega), bind1_some, bind1_some]
    by_cases c1 : a[i] < 0
    · rw [if_pos c1, if_pos c1]; exact ⟨_, rfl, rfl⟩
    by_cases c2 : now < a[i]
    · rw [if_neg c1, if_pos c2, if_neg c1, if_pos c2]; exact ⟨_, rfl, rfl⟩
    rw [if_neg c1, if_neg c2, if_neg c1, if_neg c2]
    exact ih (i + 1) (by omega) n n' (by omega) (by omega)
/-- One behind another. -/
def Sorted (l : List TVersion) : Prop := ∀ i (h : i + 1 < l.length), l[i].At < l[i + 1].At
def lastAt (l : List TVersion) : Nat → Int
  | 0 => 0
  | i + 1 => match l[i]? with
    | some v => v.At
    | none => 0
theorem lastAt_succ {l : List TVersion} {i : Nat} (h : i < l.length) : lastAt l (i + 1) = l[i].At := by simp [lastAt, h]
theorem versions_eq (l : List TVersion) (a : List Int) (now : Int) (hl : l.length ≤ 100) (ha : a.length ≤ 12) : ∀ (r i : Nat), i + r = l.length → 0 ≤ lastAt l i → (0 < i → 1 ≤ lastAt l i) → ∀ n n', r < n → r < n' →
    ∃ e, m48_vac_Check_L2 l now a n (lastAt l i) (i : Int) = some e ∧ m44_quirref_VacErr_L2 l now a n' (i : Int) = some e ∧ (e = 0 → ∀ j (h : j < l.length), i ≤ j → lastAt l j < l[j].At) := by
  intro r
  induction r with
  | zero =>
    intro i hi _ _ n n' hn hn'
    obtain ⟨n, rfl⟩ := dec n hn
    obtain ⟨n', rfl⟩ := dec n' hn'
    rw [m48_vac_Check_L2, m48_vac_Check_L2B, m44_quirref_VacErr_L2, m44_quirref_VacErr_L2B, if_neg (by omega), if_neg (by omega)]
    obtain ⟨e, h1, h2⟩ := active_eq a now ha a.length 0 (by omega) big big (by rw [big_eq]; omega) (by rw [big_eq]; omega)
    exact ⟨e, h1, h2, fun _ j h hj => by omega⟩
  | succ r ih =>
    intro i hi h0 hp n n' hn hn'
    obtain ⟨n, rfl⟩ := dec n (by omega)
    obtain ⟨n', rfl⟩ := dec n' (by omega)
    have h1 : i < l.length := by omega
    rw [m48_vac_Check_L2, m48_vac_Check_L2B, m44_quirref_VacErr_L2, m44_quirref_VacErr_L2B, if_pos (by omega), if_pos (by omega), idx_ok h1, bind1_some, bind1_some, isucc i (by omega), bind1_some]
    simp only [m44_quirref_VacErr_K5, isucc i (show i < 9223372036854775807 by omega), bind1_some]
    simp only [if_true, Bool.false_eq_true, if_false]
    have hR : ∀ (A B : Option Int), (if l[i].At < 1 then A else if (0 : Int) < (i : Int) then bind1 (i64 ((i : Int) - 1)) fun x13 => bind1 (idx l x13) fun x14 => if l[i].At ≤ x14.At then A else B else B) = if l[i].At ≤ lastAt l i then A else B := by
      intro A B
      match i, h1, hp with
      | 0, h1, _ =>
        have e0 : lastAt l 0 = 0 := rfl
        rw [e0]
        by_cases c : l[0].At < 1
        · rw [if_pos c, if_pos (by omega)]
        · rw [if_neg c, if_neg (by omega), if_neg (by omega)]
      | i + 1, h1, hp =>
        have hi1 : i < l.length := by omega
        rw [lastAt_succ hi1] at hp ⊢
        have hge := hp (by omega)
        by_cases c : l[i + 1].At < 1
        · rw [if_pos c, if_pos (by omega)]
        · rw [if_neg c, if_pos (by omega), show (((i + 1 : Nat) : Int) - 1) = (i : Int) by omega, i64_ok (by omega) (by omega), bind1_some, idx_ok hi1, bind1_some]
    rw [hR]
    by_cases c1 : l[i].At ≤ lastAt l i
    · rw [if_pos c1, if_pos c1]; exact ⟨4, rfl, rfl, by omega⟩
    by_cases c2 : now < l[i].At
    · rw [if_neg c1, if_pos c2, if_neg c1, if_pos c2]; exact ⟨4, rfl, rfl, by omega⟩
    rw [if_neg c1, if_neg c2, if_neg c1, if_neg c2]
    obtain ⟨e, g1, g2, g3⟩ := ih (i + 1) (by omega) (by rw [lastAt_succ h1]; omega) (fun _ => by rw [lastAt_succ h1]; omega) n n' (by omega) (by omega)
    rw [lastAt_succ h1] at g1
    refine ⟨e, g1, g2, fun h0 j hj hij => ?_⟩
    by_cases hji : j = i
    · subst hji; omega
    · exact g3 h0 j hj (by omega)
theorem check_eq (l : List TVersion) (a : List Int) (now : Int) : ∃ e, m48_vac_Check l a now = some e ∧ m44_quirref_VacErr l a now = some e ∧ (e = 0 → l.length ≤ 100 ∧ a.length ≤ 12 ∧ Sorted l) := by
  simp only [m48_vac_Check, m44_quirref_VacErr]
  by_cases h1 : (100 : Int) < l.length
  · exact ⟨2, by rw [if_pos h1], by rw [if_pos h1], by omega⟩
  by_cases h2 : (12 : Int) < a.length
  · exact ⟨2, by rw [if_neg h1, if_pos h2], by rw [if_neg h1, if_pos h2], by omega⟩
  rw [if_neg h1, if_neg h2, if_neg h1, if_neg h2, m48_vac_Check_K1, m44_quirref_VacErr_K1]
  by_cases h3 : now < 0
  · exact ⟨1, by rw [if_pos h3], by rw [if_pos h3], by omega⟩
  rw [if_neg h3, if_neg h3, m48_vac_Check_K2, m44_quirref_VacErr_K2]
  obtain ⟨e, g1, g2, g3⟩ := versions_eq l a now (by omega) (by omega) l.length 0 (by omega) (by simp [lastAt]) (by omega) big big (by rw [big_eq]; omega) (by rw [big_eq]; omega)
  refine ⟨e, g1, g2, fun h0 => ⟨by omega, by omega, fun i h => ?_⟩⟩
  have := g3 h0 (i + 1) h (by omega)
  rwa [lastAt_succ (by omega)] at this

/-! ### What is seen from there -/
def lst (l : List TVersion) (s : Int) : Nat → Int
  | 0 => -1
  | i + 1 => match l[i]? with
    | some v => if v.At ≤ s then (i : Int) else lst l s i
    | none => lst l s i
theorem lst_succ {l : List TVersion} {i : Nat} (s : Int) (h : i < l.length) : lst l s (i + 1) = if l[i].At ≤ s then (i : Int) else lst l s i := by simp [lst, h]
theorem lst_lt (l : List TVersion) (s : Int) : ∀ i, -1 ≤ lst l s i ∧ lst l s i < i
  | 0 => by simp [lst]
  | i + 1 => by
    have := lst_lt l s i
    simp only [lst]
    split
    · split <;> omega
    · omega
theorem read1 (l : List TVersion) (s : Int) (hl : l.length ≤ 9223372036854775807) : ∀ (r i : Nat), i + r = l.length → ∀ n, r < n → m46_vac_Read_L1 l s n (lst l s i) (i : Int) = m46_vac_Read_K1 l (lst l s l.length) := by
  intro r
  induction r with
  | zero =>
    intro i hi n hn
    obtain ⟨n, rfl⟩ := dec n hn
    rw [m46_vac_Read_L1, m46_vac_Read_L1B, if_neg (by omega), show i = l.length by omega]
  | succ r ih =>
    intro i hi n hn
    obtain ⟨n, rfl⟩ := dec n (by omega)
    have h1 : i < l.length := by omega
    rw [m46_vac_Read_L1, m46_vac_Read_L1B, if_pos (by omega), idx_ok h1, bind1_some, isucc i (by omega), bind1_some, bind1_some]
    have := ih (i + 1) (by omega) n (by omega)
    rw [lst_succ s h1] at this
    by_cases c : l[i].At ≤ s
    · rw [if_pos c] at this ⊢; exact this
    · rw [if_neg c] at this ⊢; exact this
theorem read2 (l : List TVersion) (s : Int) (hl : l.length ≤ 9223372036854775807) : ∀ (i : Nat), i ≤ l.length → ∀ n, i < n → m47_quirref_Read_L1 l s n ((i : Int) - 1) = m46_vac_Read_K1 l (lst l s i) := by
  intro i
  induction i with
  | zero =>
    intro _ n hn
    obtain ⟨n, rfl⟩ := dec n hn
    rw [m47_quirref_Read_L1, m47_quirref_Read_L1B, if_neg (by omega), m47_quirref_Read_K1, m46_vac_Read_K1, lst, if_pos (by omega)]
  | succ i ih =>
    intro hi n hn
    obtain ⟨n, rfl⟩ := dec n (by omega)
    have h1 : i < l.length := by omega
    rw [m47_quirref_Read_L1, m47_quirref_Read_L1B, show (((i + 1 : Nat) : Int) - 1) = (i : Int) by omega, if_pos (by omega), m47_quirref_Read_K2, idx_ok h1, bind1_some, bind1_some, lst_succ s h1]
    by_cases c : l[i].At ≤ s
    · rw [if_pos c, if_pos c, m46_vac_Read_K1, if_neg (by omega), idx_ok h1, bind1_some]
    · rw [if_neg c, if_neg c, i64_ok (by omega) (by omega), bind1_some]
      exact ih (by omega) n (by omega)
theorem read_eq (l : List TVersion) (s : Int) (hl : l.length ≤ 9223372036854775807) : ∃ t b, m46_vac_Read l s = some (t, b) ∧ m47_quirref_Read l s = some (t, b) := by
  have h1 := read1 l s hl l.length 0 (by omega) big (by rw [big_eq]; omega)
  have h2 := read2 l s hl l.length (Nat.le_refl _) big (by rw [big_eq]; omega)
  have hk : ∃ t b, m46_vac_Read_K1 l (lst l s l.length) = some (t, b) := by
    have hb := lst_lt l s l.length
    rw [m46_vac_Read_K1]
    by_cases c : lst l s l.length < 0
    · rw [if_pos c]; exact ⟨_, _, rfl⟩
    · obtain ⟨j, hj⟩ := Int.eq_ofNat_of_zero_le (show 0 ≤ lst l s l.length by omega)
      rw [if_neg c, hj, idx_ok (by omega), bind1_some]
      exact ⟨_, _, rfl⟩
  obtain ⟨t, b, hk⟩ := hk
  refine ⟨t, b, ?_, ?_⟩
  · rw [m46_vac_Read]; exact h1.trans hk
  · rw [m47_quirref_Read, i64_ok (by omega) (by omega), bind1_some, h2, hk]

/-! ### The search -/
theorem sorted_le {l : List TVersion} (hs : Sorted l) : ∀ (d i : Nat) (h : i + d < l.length), l[i].At ≤ l[i + d].At
  | 0, i, h => Int.le_refl _
  | d + 1, i, h => by
    have h1 := sorted_le hs d i (by omega)
    have h2 := hs (i + d) (by omega)
    simp only [← Nat.add_assoc]
    omega
theorem sorted_le' {l : List TVersion} (hs : Sorted l) {i j : Nat} (hij : i ≤ j) (hj : j < l.length) : l[i].At ≤ l[j].At := by
  obtain ⟨d, rfl⟩ : ∃ d, j = i + d := ⟨j - i, by omega⟩
  exact sorted_le hs d i hj
/-- How many are seen, where they stand one behind another. -/
theorem lst_of {l : List TVersion} (s : Int) (k : Nat) (hk : k ≤ l.length) (h1 : ∀ i (h : i < l.length), i < k → l[i].At ≤ s) (h2 : ∀ i (h : i < l.length), k ≤ i → s < l[i].At) : ∀ i, k ≤ i → i ≤ l.length → lst l s i = (k : Int) - 1 := by
  intro i hki
  induction i with
  | zero => intro _; have : k = 0 := by omega
            subst this; simp [lst]
  | succ i ih =>
    intro hi
    rw [lst_succ s (by omega)]
    by_cases c : k ≤ i
    · rw [if_neg (by have := h2 i (by omega) c; omega)]; exact ih c (by omega)
    · have : k = i + 1 := by omega
      subst this
      rw [if_pos (h1 i (by omega) (by omega))]; omega
theorem searchLoop (l : List TVersion) (hs : Sorted l) (s : Int) (hl : l.length ≤ 100) : ∀ (d i j : Nat), j - i ≤ d → i ≤ j → j ≤ l.length → (∀ q (h : q < l.length), q < i → l[q].At ≤ s) → (∀ q (h : q < l.length), j ≤ q → s < l[q].At) → ∀ n, d < n →
    m105_vac_at_L1 l s n (i : Int) (j : Int) = some (lst l s l.length) := by
  intro d
  induction d with
  | zero =>
    intro i j hd hij hj h1 h2 n hn
    obtain ⟨n, rfl⟩ := dec n hn
    have : i = j := by omega
    subst this
    rw [m105_vac_at_L1, m105_vac_at_L1B, if_neg (by omega), lst_of s i hj h1 h2 l.length hj (Nat.le_refl _), m105_vac_at_K2]
    have hk : ∀ b, m105_vac_at_K1 (i : Int) b = some ((i : Int) - 1) := fun b => by rw [m105_vac_at_K1, i64_ok (by omega) (by omega), bind1_some]
    by_cases c : (i : Int) < l.length
    · rw [if_pos c, idx_ok (by omega), bind1_some, m105_vac_at_K3, m105_vac_at_K3, hk, hk]
      simp
    · rw [if_neg c, hk]
  | succ d ih =>
    intro i j hd hij hj h1 h2 n hn
    obtain ⟨n, rfl⟩ := dec n (by omega)
    by_cases hlt : i < j
    · rw [m105_vac_at_L1, m105_vac_at_L1B, if_pos (by omega), m105_vac_at_K4, i64_ok (by omega) (by omega), bind1_some]
      have e1 : IntKind.wrap .u64 ((i : Int) + (j : Int)) = ((i + j : Nat) : Int) := by rw [wrapU64]; omega
      rw [e1, show (1 : Int) = ((1 : Nat) : Int) by rfl, shrW_u64 _ _ (by decide), bind1_some]
      have e2 : IntKind.wrap .i64 (((i + j) / 2 ^ 1 : Nat) : Int) = (((i + j) / 2 : Nat) : Int) := by rw [wrapI64 (by omega) (by omega)]
      simp only [m105_vac_at_K5, e2]
      have hm : (i + j) / 2 < l.length := by omega
      rw [idx_ok hm, bind1_some]
      by_cases c : l[(i + j) / 2].At ≤ s
      · rw [if_pos c, if_pos (by omega), isucc _ (by omega), bind1_some]
        exact ih ((i + j) / 2 + 1) j (by omega) (by omega) hj (fun q hq hlt' => by have := sorted_le' hs (show q ≤ (i + j) / 2 by omega) hm; omega) h2 n (by omega)
      · rw [if_neg c, if_neg (by omega)]
        exact ih i ((i + j) / 2) (by omega) (by omega) (by omega) h1 (fun q hq hle => by have := sorted_le' hs hle hq; omega) n (by omega)
    · exact (by
        have : i = j := by omega
        subst this
        have h0 := ih i i (by omega) (by omega) hj h1 h2 (n + 1) (by omega)
        exact h0)
theorem at_eq (l : List TVersion) (hs : Sorted l) (s : Int) (hl : l.length ≤ 100) : m105_vac_at l s = some (lst l s l.length) :=
  searchLoop l hs s hl l.length 0 l.length (by omega) (by omega) (Nat.le_refl _) (by omega) (by omega) big (by rw [big_eq]; omega)

/-! ### What is kept -/
/-- The kept ones from there on. -/
def kept (l : List TVersion) (c : Nat → Bool) : Nat → Nat → List TVersion
  | 0, _ => []
  | r + 1, i => match l[i]? with
    | some v => if c i = true then v :: kept l c r (i + 1) else kept l c r (i + 1)
    | none => []
theorem kept_succ {l : List TVersion} (c : Nat → Bool) (r : Nat) {i : Nat} (h : i < l.length) : kept l c (r + 1) i = if c i = true then l[i] :: kept l c r (i + 1) else kept l c r (i + 1) := by simp [kept, h]
theorem kept_len (l : List TVersion) (c : Nat → Bool) : ∀ r i, (kept l c r i).length ≤ r
  | 0, _ => by simp [kept]
  | r + 1, i => by
    have := kept_len l c r (i + 1)
    simp only [kept]
    split
    · split
      · simp; omega
      · omega
    · simp
theorem keepLoop (l : List TVersion) (m : List (Int × Int)) (hl : l.length ≤ 100) : ∀ (r i : Nat), i + r = l.length → ∀ n, r < n → ∀ o : List TVersion, o.length + r ≤ 1000 →
    m45_vac_Keep_L1 l m n o (i : Int) = some (o ++ kept l (fun i => decide (0 < mget m (i : Int))) r i, 0) := by
  intro r
  induction r with
  | zero =>
    intro i hi n hn o _
    obtain ⟨n, rfl⟩ := dec n hn
    rw [m45_vac_Keep_L1, m45_vac_Keep_L1B, if_neg (by omega), m45_vac_Keep_K3, kept, List.append_nil]
  | succ r ih =>
    intro i hi n hn o ho
    obtain ⟨n, rfl⟩ := dec n (by omega)
    have h1 : i < l.length := by omega
    rw [m45_vac_Keep_L1, m45_vac_Keep_L1B, if_pos (by omega), idx_ok h1, bind1_some, isucc i (by omega), kept_succ _ _ h1]
    by_cases c : 0 < mget m (i : Int)
    · rw [if_pos c, app_ok (by simp; omega), bind1_some, bind1_some, ih (i + 1) (by omega) n (by omega) _ (by simp; omega), if_pos (by simpa using c)]
      simp
    · rw [if_neg c, bind1_some, ih (i + 1) (by omega) n (by omega) o (by omega), if_neg (by simpa using c)]
/-- Which version is the one that is seen. -/
def seenB (l : List TVersion) (s : Int) (i : Nat) : Bool := decide (lst l s l.length = (i : Int))
theorem seen_iff {l : List TVersion} (hs : Sorted l) (s : Int) {i : Nat} (h : i < l.length) : lst l s l.length = (i : Int) ↔ l[i].At ≤ s ∧ (i + 1 = l.length ∨ ∃ h : i + 1 < l.length, s < l[i + 1].At) := by
  have key : ∀ k, k ≤ l.length → (∀ i (h : i < l.length), i < k → l[i].At ≤ s) → (∀ i (h : i < l.length), k ≤ i → s < l[i].At) → (lst l s l.length = (i : Int) ↔ k = i + 1) := by
    intro k hk h1 h2
    rw [lst_of s k hk h1 h2 l.length hk (Nat.le_refl _)]
    omega
  -- where the bound lies
  have ex : ∀ n, n ≤ l.length → ∃ k, k ≤ n ∧ (∀ i (h : i < l.length), i < k → l[i].At ≤ s) ∧ (∀ i (h : i < l.length), k ≤ i → i < n → s < l[i].At) := by
    intro n
    induction n with
    | zero => intro _; exact ⟨0, by omega, by omega, by omega⟩
    | succ n ih =>
      intro hn
      obtain ⟨k, h1, h2, h3⟩ := ih (by omega)
      have hnl : n < l.length := by omega
      by_cases c : l[n].At ≤ s
      · refine ⟨n + 1, by omega, fun i h hi => ?_, by omega⟩
        have := sorted_le' hs (show i ≤ n by omega) hnl
        omega
      · refine ⟨k, by omega, h2, fun i h hk hi => ?_⟩
        by_cases hin : i = n
        · subst hin; omega
        · exact h3 i h hk (by omega)
  obtain ⟨k, h1, h2, h3⟩ := ex l.length (Nat.le_refl _)
  rw [key k h1 h2 (fun i h hk => h3 i h hk h)]
  constructor
  · rintro rfl
    refine ⟨h2 i h (by omega), ?_⟩
    by_cases hi : i + 1 = l.length
    · exact .inl hi
    · exact .inr ⟨by omega, h3 (i + 1) (by omega) (Nat.le_refl _) (by omega)⟩
  · rintro ⟨h4, h5⟩
    have hk1 : i < k := by
      apply Nat.lt_of_not_le
      intro hle
      have := h3 i h hle h
      omega
    rcases h5 with h5 | ⟨h5, h6⟩
    · omega
    · have : ¬ i + 1 < k := fun hlt => by have := h2 (i + 1) h5 hlt; omega
      omega
theorem countLoop (l : List TVersion) (hs : Sorted l) (hl : l.length ≤ 100) (a : List Int) (ha : a.length ≤ 13) : ∀ (r i : Nat), i + r = a.length → ∀ n, r < n → ∀ m : List (Int × Int), (∀ k, 0 ≤ mget m k ∧ mget m k ≤ i) → (∀ k, 0 < mget m k ↔ ∃ s ∈ a.take i, lst l s l.length = k) →
    ∃ m', m45_vac_Keep_L2 a l n (i : Int) m = m45_vac_Keep_K2 l m' ∧ ∀ k, 0 < mget m' k ↔ ∃ s ∈ a, lst l s l.length = k := by
  intro r
  induction r with
  | zero =>
    intro i hi n hn m h1 h2
    obtain ⟨n, rfl⟩ := dec n hn
    refine ⟨m, by rw [m45_vac_Keep_L2, m45_vac_Keep_L2B, if_neg (by omega)], fun k => ?_⟩
    rw [h2 k, List.take_of_length_le (by omega)]
  | succ r ih =>
    intro i hi n hn m h1 h2
    obtain ⟨n, rfl⟩ := dec n (by omega)
    have hil : i < a.length := by omega
    have hb := h1 (lst l a[i] l.length)
    rw [m45_vac_Keep_L2, m45_vac_Keep_L2B, if_pos (by omega), idx_ok hil, bind1_some, at_eq l hs _ hl, bind1_some, i64_ok (by omega) (by omega), bind1_some, bind1_some, isucc i (by omega), bind1_some]
    refine ih (i + 1) (by omega) n (by omega) _ (fun k => ?_) (fun k => ?_)
    · rw [mget_mset]
      have := h1 k
      split <;> omega
    · rw [mget_mset, List.take_succ_eq_append_getElem hil]
      by_cases c : k = lst l a[i] l.length
      · rw [if_pos c]
        refine ⟨fun _ => ⟨a[i], List.mem_append.2 (.inr (List.mem_singleton.2 rfl)), c.symm⟩, fun _ => by omega⟩
      · rw [if_neg c, h2 k]
        constructor
        · rintro ⟨s, hs1, hs2⟩; exact ⟨s, List.mem_append.2 (.inl hs1), hs2⟩
        · rintro ⟨s, hs1, hs2⟩
          rcases List.mem_append.1 hs1 with h | h
          · exact ⟨s, h, hs2⟩
          · rw [List.mem_singleton] at h; subst h; exact absurd hs2.symm c
theorem keep_eq (l : List TVersion) (a : List Int) (now : Int) (hs : Sorted l) (hl : l.length ≤ 100) (ha : a.length ≤ 12) :
    m45_vac_Keep_K1 a now l = some (kept l (fun i => decide (∃ s ∈ a ++ [now], lst l s l.length = (i : Int))) l.length 0, 0) := by
  rw [m45_vac_Keep_K1, m104_slices_Clone_int, app_ok (by simp; omega), bind1_some, bind1_some, List.nil_append, app_ok (by simp; omega), bind1_some]
  obtain ⟨m', h1, h2⟩ := countLoop l hs hl (a ++ [now]) (by simp; omega) (a ++ [now]).length 0 (by omega) big (by rw [big_eq]; simp; omega) [] (by simp [mget]) (by simp [mget])
  rw [show ((0 : Nat) : Int) = 0 by rfl] at h1
  rw [h1, m45_vac_Keep_K2]
  have := keepLoop l m' hl l.length 0 (by omega) big (by rw [big_eq]; omega) [] (by simp; omega)
  rw [show ((0 : Nat) : Int) = 0 by rfl] at this
  rw [this, List.nil_append]
  congr 2
  have : (fun i : Nat => decide (0 < mget m' (i : Int))) = fun i : Nat => decide (∃ s ∈ a ++ [now], lst l s l.length = (i : Int)) := funext fun i => decide_eq_decide.2 (h2 i)
  rw [this]

/-! ### What the document keeps -/
theorem someLoop (l : List TVersion) (hs : Sorted l) (hl : l.length ≤ 100) (a : List Int) (ha : a.length ≤ 12) (i : Nat) (hi : i < l.length) (o : List TVersion) (go : List TVersion → Int → Option (List TVersion)) : ∀ (r j : Nat), j + r = a.length → ∀ n, r < n →
    m50_quirref_Keep_L2 a l[i] (i : Int) l o go n (j : Int) = m50_quirref_Keep_K3 o l[i] (i : Int) go (decide (∃ s ∈ a.drop j, lst l s l.length = (i : Int))) := by
  intro r
  induction r with
  | zero =>
    intro j hj n hn
    obtain ⟨n, rfl⟩ := dec n hn
    rw [m50_quirref_Keep_L2, m50_quirref_Keep_L2B, if_neg (by omega), m50_quirref_Keep_K5, m50_quirref_Keep_K4, List.drop_eq_nil_of_le (by omega)]
    simp
  | succ r ih =>
    intro j hj n hn
    obtain ⟨n, rfl⟩ := dec n (by omega)
    have hja : j < a.length := by omega
    have hcond : (∃ s ∈ a.drop j, lst l s l.length = (i : Int)) ↔ (lst l a[j] l.length = (i : Int)) ∨ ∃ s ∈ a.drop (j + 1), lst l s l.length = (i : Int) := by
      rw [List.drop_eq_getElem_cons hja]
      simp only [List.mem_cons, exists_eq_or_imp]
    have hrec := ih (j + 1) (by omega) n (by omega)
    have hsn := seen_iff hs a[j] hi
    have yes : lst l a[j] l.length = (i : Int) → m50_quirref_Keep_K4 o l[i] (i : Int) go (j : Int) = m50_quirref_Keep_K3 o l[i] (i : Int) go (decide (∃ s ∈ a.drop j, lst l s l.length = (i : Int))) := fun h => by
      rw [m50_quirref_Keep_K4, decide_eq_true (show (0 : Int) ≤ (j : Int) by omega), decide_eq_true (hcond.2 (.inl h))]
    have no : ¬ lst l a[j] l.length = (i : Int) → (bind1 (i64 ((j : Int) + 1)) fun x13 => m50_quirref_Keep_L2 a l[i] (i : Int) l o go n x13) = m50_quirref_Keep_K3 o l[i] (i : Int) go (decide (∃ s ∈ a.drop j, lst l s l.length = (i : Int))) := fun h => by
      rw [isucc j (by omega), bind1_some, hrec, decide_eq_decide.2 (hcond.trans ⟨fun q => q.resolve_left h, .inr⟩)]
    rw [m50_quirref_Keep_L2, m50_quirref_Keep_L2B, if_pos (by omega), idx_ok hja, bind1_some]
    simp only [m50_quirref_Keep_K7, m50_quirref_Keep_K6, isucc i (show i < 9223372036854775807 by omega), bind1_some, if_true, Bool.false_eq_true, if_false]
    by_cases c1 : l[i].At ≤ a[j]
    · rw [if_pos c1]
      by_cases c2 : ((i + 1 : Nat) : Int) = l.length
      · rw [if_pos c2]
        exact yes (hsn.2 ⟨c1, .inl (by omega)⟩)
      · have hi1 : i + 1 < l.length := by omega
        rw [if_neg c2, idx_ok hi1, bind1_some]
        by_cases c3 : a[j] < l[i + 1].At
        · rw [if_pos (by simpa using c3)]
          exact yes (hsn.2 ⟨c1, .inr ⟨hi1, c3⟩⟩)
        · rw [if_neg (by simpa using c3)]
          exact no fun h => by
            rcases (hsn.1 h).2 with h4 | ⟨_, h4⟩
            · omega
            · exact c3 h4
    · rw [if_neg c1]
      exact no fun h => c1 (hsn.1 h).1
theorem refLoop (l : List TVersion) (hs : Sorted l) (hl : l.length ≤ 100) (a : List Int) (ha : a.length ≤ 12) (now : Int) : ∀ (r i : Nat), i + r = l.length → ∀ n, r < n → ∀ o : List TVersion, o.length + r ≤ 1000 →
    m50_quirref_Keep_L1 l now a n o (i : Int) = some (o ++ kept l (fun i => decide (∃ s ∈ a ++ [now], lst l s l.length = (i : Int))) r i) := by
  intro r
  induction r with
  | zero =>
    intro i hi n hn o _
    obtain ⟨n, rfl⟩ := dec n hn
    rw [m50_quirref_Keep_L1, m50_quirref_Keep_L1B, if_neg (by omega), m50_quirref_Keep_K1, kept, List.append_nil]
  | succ r ih =>
    intro i hi n hn o ho
    obtain ⟨n, rfl⟩ := dec n (by omega)
    have h1 : i < l.length := by omega
    have hsn := seen_iff hs now h1
    have hex : (∃ s ∈ a ++ [now], lst l s l.length = (i : Int)) ↔ (lst l now l.length = (i : Int)) ∨ ∃ s ∈ a, lst l s l.length = (i : Int) := by
      constructor
      · rintro ⟨s, h2, h3⟩
        rcases List.mem_append.1 h2 with h | h
        · exact .inr ⟨s, h, h3⟩
        · rw [List.mem_singleton] at h; subst h; exact .inl h3
      · rintro (h | ⟨s, h2, h3⟩)
        · exact ⟨now, by simp, h⟩
        · exact ⟨s, by simp [h2], h3⟩
    have take : (app o [l[i]]) = some (o ++ [l[i]]) := app_ok (by simp; omega)
    have yes : (∃ s ∈ a ++ [now], lst l s l.length = (i : Int)) → (bind1 (app o [l[i]]) fun l21 => bind1 (i64 ((i : Int) + 1)) fun x22 => m50_quirref_Keep_L1 l now a n l21 x22) = some (o ++ kept l (fun i => decide (∃ s ∈ a ++ [now], lst l s l.length = (i : Int))) (r + 1) i) := fun h => by
      rw [take, bind1_some, isucc i (by omega), bind1_some, ih (i + 1) (by omega) n (by omega) _ (by simp; omega), kept_succ _ _ h1, if_pos (by simpa using h)]
      simp
    have no : ¬ (∃ s ∈ a ++ [now], lst l s l.length = (i : Int)) → (bind1 (i64 ((i : Int) + 1)) fun x22 => m50_quirref_Keep_L1 l now a n o x22) = some (o ++ kept l (fun i => decide (∃ s ∈ a ++ [now], lst l s l.length = (i : Int))) (r + 1) i) := fun h => by
      rw [isucc i (by omega), bind1_some, ih (i + 1) (by omega) n (by omega) _ (by omega), kept_succ _ _ h1, if_neg (by simpa using h)]
    have rest : ¬ lst l now l.length = (i : Int) → m50_quirref_Keep_L2 a l[i] (i : Int) l o (m50_quirref_Keep_L1 l now a n) big 0 = some (o ++ kept l (fun i => decide (∃ s ∈ a ++ [now], lst l s l.length = (i : Int))) (r + 1) i) := fun h => by
      have := someLoop l hs hl a ha i h1 o (m50_quirref_Keep_L1 l now a n) a.length 0 (by omega) big (by rw [big_eq]; omega)
      rw [show ((0 : Nat) : Int) = 0 by rfl, List.drop_zero] at this
      rw [this, m50_quirref_Keep_K3]
      by_cases c : ∃ s ∈ a, lst l s l.length = (i : Int)
      · rw [if_pos (decide_eq_true c)]; exact yes (hex.2 (.inr c))
      · rw [if_neg (by simpa using c)]; exact no fun q => (hex.1 q).elim h c
    rw [m50_quirref_Keep_L1, m50_quirref_Keep_L1B, if_pos (by omega), idx_ok h1, bind1_some]
    simp only [m50_quirref_Keep_K8, m50_quirref_Keep_K2, isucc i (show i < 9223372036854775807 by omega), bind1_some, if_true, Bool.false_eq_true, if_false]
    simp only [isucc i (show i < 9223372036854775807 by omega), bind1_some] at yes no
    by_cases c1 : l[i].At ≤ now
    · rw [if_pos c1]
      by_cases c2 : ((i + 1 : Nat) : Int) = l.length
      · rw [if_pos c2]
        exact yes (hex.2 (.inl (hsn.2 ⟨c1, .inl (by omega)⟩)))
      · have hi1 : i + 1 < l.length := by omega
        rw [if_neg c2, idx_ok hi1, bind1_some]
        by_cases c3 : now < l[i + 1].At
        · rw [if_pos (by simpa using c3)]
          exact yes (hex.2 (.inl (hsn.2 ⟨c1, .inr ⟨hi1, c3⟩⟩)))
        · rw [if_neg (by simpa using c3)]
          exact rest fun h => by
            rcases (hsn.1 h).2 with h4 | ⟨_, h4⟩
            · omega
            · exact c3 h4
    · rw [if_neg c1]
      exact rest fun h => c1 (hsn.1 h).1
theorem equalLoop (a b : List TVersion) (hab : a.length = b.length) (hl : a.length ≤ 1099511627776) : ∀ (r i : Nat), i + r = a.length → ∀ n, r < n → m49_api_Version_L1 a b n (i : Int) = some (decide (a.drop i = b.drop i)) := by
  intro r
  induction r with
  | zero =>
    intro i hi n hn
    obtain ⟨n, rfl⟩ := dec n hn
    rw [m49_api_Version_L1, m49_api_Version_L1B, if_neg (by omega), m49_api_Version_K2, List.drop_eq_nil_of_le (by omega), List.drop_eq_nil_of_le (by omega)]
    rfl
  | succ r ih =>
    intro i hi n hn
    obtain ⟨n, rfl⟩ := dec n (by omega)
    have h1 : i < a.length := by omega
    have h2 : i < b.length := by omega
    rw [m49_api_Version_L1, m49_api_Version_L1B, if_pos (by omega), idx_ok h1, idx_ok h2, bind1_some, bind1_some]
    rw [List.drop_eq_getElem_cons h1, List.drop_eq_getElem_cons h2]
    by_cases h : a[i] = b[i]
    · rw [if_neg (by simpa using h), isucc i (by omega), bind1_some, ih (i + 1) (by omega) n (by omega)]
      simp only [List.cons.injEq, h, true_and]
    · rw [if_pos h]
      simp only [List.cons.injEq, h, false_and, decide_false]
theorem equal_self (a : List TVersion) (hl : a.length ≤ 1099511627776) : m49_api_Version a a = some true := by
  simp only [m49_api_Version]
  rw [if_neg (by simp), m49_api_Version_K1]
  have := equalLoop a a rfl hl a.length 0 (by omega) big (by rw [big_eq]; omega)
  rw [show ((0 : Nat) : Int) = 0 by rfl] at this
  rw [this]; simp

theorem vac_true (l : List TVersion) (a : List Int) (now s : Int) (hl : l.length ≤ 9223372036854775807) : m8_quirlaw_VacSays l a now s = some true := by
  obtain ⟨e, g1, g2, g3⟩ := check_eq l a now
  obtain ⟨t, b, g4, g5⟩ := read_eq l s hl
  have tail : ∀ k x, (e ≠ 0 → k = [] ∧ x = e) → (e = 0 → x = 0 ∧ ∃ k', m50_quirref_Keep l a now = some k' ∧ k = k' ∧ k.length ≤ 100) → m8_quirlaw_VacSays_K1 e k x l a now = some true := by
    intro k x h1 h2
    rw [m8_quirlaw_VacSays_K1]
    by_cases he : e = 0
    · obtain ⟨rfl, k', h3, rfl, h4⟩ := h2 he
      rw [if_neg (by simpa using he), m8_quirlaw_VacSays_K2, h3, bind1_some, equal_self k (by omega), bind1_some]
      rfl
    · obtain ⟨rfl, rfl⟩ := h1 he
      rw [if_pos he]
      simp
  have hkeep : ∃ k x, m45_vac_Keep l a now = some (k, x) ∧ m8_quirlaw_VacSays_K1 e k x l a now = some true := by
    rw [m45_vac_Keep, g1, bind1_some]
    by_cases he : e = 0
    · obtain ⟨h1, h2, h3⟩ := g3 he
      rw [if_neg (by simpa using he), keep_eq l a now h3 h1 h2]
      have hr := refLoop l h3 h1 a h2 now l.length 0 (by omega) big (by rw [big_eq]; omega) [] (by simp; omega)
      rw [show ((0 : Nat) : Int) = 0 by rfl, List.nil_append] at hr
      have hlen := kept_len l (fun i => decide (∃ s ∈ a ++ [now], lst l s l.length = (i : Int))) l.length 0
      exact ⟨_, _, rfl, tail _ _ (fun h => absurd he h) fun _ => ⟨rfl, _, hr, rfl, by omega⟩⟩
    · rw [if_pos he]
      exact ⟨_, _, rfl, tail _ _ (fun _ => ⟨rfl, rfl⟩) fun h => absurd h he⟩
  obtain ⟨k, x, g6, g7⟩ := hkeep
  rw [m8_quirlaw_VacSays, g2, g6, g4, g5, g1]
  simp only [bind1_some, bind2_some]
  simp [m8_quirlaw_VacSays_K3, g7]
end Go.Proofs.Ytfmgjigdebofaaa
