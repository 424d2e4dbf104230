/-
  Package buddy: the law's answer.
  Conditions: none.
-/
import Derived.Test.YtanpiecpmmcaeaaBuT
namespace Go.Proofs.Ytanpiecpmmcaeaa
open Go.S Go.Sort
set_option linter.unusedVariables false
set_option linter.unusedSimpArgs false
/-- The best so far. -/
def Bst (F : List TBlock) (k : Int) (i : Nat) (q : Int) : Prop :=
  (q = -1 ∧ ∀ j (h : j < F.length), j < i → F[j].Order < k) ∨
  (∃ (s : Nat) (hs : s < F.length), q = s ∧ k ≤ F[s].Order ∧ ∀ j (h : j < F.length), j < i → k ≤ F[j].Order → F[s].Order < F[j].Order ∨ (F[s].Order = F[j].Order ∧ s ≤ j))
section
variable {b : TBuddy} {F : List TBlock} {k : Int}
theorem best_loop (hF : F.length ≤ 1000000) : ∀ (r i : Nat), i + r = F.length → ∀ (q : Int), Bst F k i q → (∀ s : Nat, q = s → s < i) → ∀ n, r < n → ∃ q', Bst F k F.length q' ∧ m6_buddy_Take_L1 F k b n q i = m6_buddy_Take_K3 F b k q' := by
  intro r
  induction r with
  | zero =>
    intro i hi q hq _ n hn
    obtain ⟨n, rfl⟩ := dec n hn
    have : i = F.length := by omega
    subst this
    refine ⟨q, hq, ?_⟩
    rw [m6_buddy_Take_L1, m6_buddy_Take_L1B, if_neg (by omega)]
  | succ r ih =>
    intro i hi q hq hqi n hn
    obtain ⟨n, rfl⟩ := dec n (by omega)
    have h1 : i < F.length := by omega
    have keep : Bst F k (i + 1) q → ∃ q', Bst F k F.length q' ∧ m6_buddy_Take_L1 F k b n q ((i + 1 : Nat) : Int) = m6_buddy_Take_K3 F b k q' := fun h =>
      ih (i + 1) (by omega) q h (fun s hs => by have := hqi s hs; omega) n (by omega)
    have turn : Bst F k (i + 1) i → ∃ q', Bst F k F.length q' ∧ m6_buddy_Take_L1 F k b n (i : Int) ((i + 1 : Nat) : Int) = m6_buddy_Take_K3 F b k q' := fun h =>
      ih (i + 1) (by omega) i h (fun s hs => by omega) n (by omega)
    rw [m6_buddy_Take_L1, m6_buddy_Take_L1B, if_pos (by omega), idx_ok h1, bind1_some]
    by_cases c1 : k ≤ F[i].Order
    · rw [if_pos c1]
      rcases hq with ⟨rfl, h2⟩ | ⟨s, hs, rfl, h2, h3⟩
      · rw [if_pos (by omega), isucc i (by omega), bind1_some]
        refine turn (.inr ⟨i, h1, rfl, c1, fun j hj hji hk => ?_⟩)
        by_cases hjj : j = i
        · subst hjj; right; exact ⟨rfl, Nat.le_refl _⟩
        · have := h2 j hj (by omega); omega
      · rw [if_neg (by omega), idx_ok hs, bind1_some]
        by_cases c2 : F[i].Order < F[s].Order
        · rw [if_pos c2, isucc i (by omega), bind1_some]
          refine turn (.inr ⟨i, h1, rfl, c1, fun j hj hji hk => ?_⟩)
          by_cases hjj : j = i
          · subst hjj; right; exact ⟨rfl, Nat.le_refl _⟩
          · have := h3 j hj (by omega) hk; omega
        · rw [if_neg c2, isucc i (by omega), bind1_some]
          refine keep (.inr ⟨s, hs, rfl, h2, fun j hj hji hk => ?_⟩)
          by_cases hjj : j = i
          · subst hjj; have := hqi s rfl; omega
          · exact h3 j hj (by omega) hk
    · rw [if_neg c1, isucc i (by omega), bind1_some]
      refine keep ?_
      rcases hq with ⟨rfl, h2⟩ | ⟨s, hs, rfl, h2, h3⟩
      · refine .inl ⟨rfl, fun j hj hji => ?_⟩
        by_cases hjj : j = i
        · subst hjj; omega
        · exact h2 j hj (by omega)
      · refine .inr ⟨s, hs, rfl, h2, fun j hj hji hk => ?_⟩
        by_cases hjj : j = i
        · subst hjj; exact absurd hk c1
        · exact h3 j hj (by omega) hk
end
/-- The first that begins at a place. -/
def ixA (a : Int) : List TBlock → Nat
  | [] => 0
  | x :: l => if x.At = a then 0 else ixA a l + 1
theorem ixA_le (a : Int) : ∀ l, ixA a l ≤ l.length
  | [] => Nat.le_refl _
  | x :: l => by
    have := ixA_le a l
    simp only [ixA, List.length_cons]
    split <;> omega
def gone (T : List TBlock) (a : Int) : List TBlock := T.take (ixA a T) ++ T.drop (ixA a T + 1)
theorem gone_len (T : List TBlock) (a : Int) : (gone T a).length ≤ T.length := by
  unfold gone
  rw [List.length_append, List.length_take, List.length_drop]; omega
section
variable {b : TBuddy} {a2 : Int}
theorem drop_loop (hl : b.Taken.length ≤ 2000) : ∀ (r i : Nat), i + r = b.Taken.length → ∀ n, r < n →
    m7_buddy_Drop_L1 b a2 n i = m7_buddy_Drop_K2 b (if ixA a2 (b.Taken.drop i) < (b.Taken.drop i).length then ((i + ixA a2 (b.Taken.drop i) : Nat) : Int) else -1) := by
  intro r
  induction r with
  | zero =>
    intro i hi n hn
    obtain ⟨n, rfl⟩ := dec n hn
    rw [m7_buddy_Drop_L1, m7_buddy_Drop_L1B, if_neg (by omega), List.drop_eq_nil_of_le (by omega)]
    rfl
  | succ r ih =>
    intro i hi n hn
    obtain ⟨n, rfl⟩ := dec n (by omega)
    have h1 : i < b.Taken.length := by omega
    rw [m7_buddy_Drop_L1, m7_buddy_Drop_L1B, if_pos (by omega), idx_ok h1, bind1_some, drop_cons h1, m7_buddy_Drop_K5]
    by_cases c : b.Taken[i].At = a2
    · rw [if_pos (by simp [c])]
      have e : ixA a2 (b.Taken[i] :: b.Taken.drop (i + 1)) = 0 := by simp [ixA, c]
      rw [e, if_pos (by rw [List.length_cons]; omega)]
      rfl
    · rw [if_neg (by simpa using c), isucc i (by omega), bind1_some, ih (i + 1) (by omega) n (by omega)]
      simp only [ixA, if_neg c, List.length_cons]
      by_cases d : ixA a2 (b.Taken.drop (i + 1)) < (b.Taken.drop (i + 1)).length
      · rw [if_pos d, if_pos (by omega)]
        congr 2; omega
      · rw [if_neg d, if_neg (by omega)]
theorem law_drop_loop {x15 x9 : TBuddy} {x17 a1 x11 x12 : Int} {F : List TBlock} (hl : b.Taken.length ≤ 2000) : ∀ (r i : Nat), i + r = b.Taken.length → ∀ n, r < n →
    m3_quirlaw_BuddySays_L4 b a2 x15 x17 a1 x9 x11 x12 F n i = m3_quirlaw_BuddySays_K4 x15 x17 a1 x9 x11 x12 b F (if ixA a2 (b.Taken.drop i) < (b.Taken.drop i).length then ((i + ixA a2 (b.Taken.drop i) : Nat) : Int) else -1) := by
  intro r
  induction r with
  | zero =>
    intro i hi n hn
    obtain ⟨n, rfl⟩ := dec n hn
    rw [m3_quirlaw_BuddySays_L4, m3_quirlaw_BuddySays_L4B, if_neg (by omega), List.drop_eq_nil_of_le (by omega)]
    rfl
  | succ r ih =>
    intro i hi n hn
    obtain ⟨n, rfl⟩ := dec n (by omega)
    have h1 : i < b.Taken.length := by omega
    rw [m3_quirlaw_BuddySays_L4, m3_quirlaw_BuddySays_L4B, if_pos (by omega), idx_ok h1, bind1_some, drop_cons h1, m3_quirlaw_BuddySays_K19]
    by_cases c : b.Taken[i].At = a2
    · rw [if_pos (by simp [c])]
      have e : ixA a2 (b.Taken[i] :: b.Taken.drop (i + 1)) = 0 := by simp [ixA, c]
      rw [e, if_pos (by rw [List.length_cons]; omega)]
      rfl
    · rw [if_neg (by simpa using c), isucc i (by omega), bind1_some, ih (i + 1) (by omega) n (by omega)]
      simp only [ixA, if_neg c, List.length_cons]
      by_cases d : ixA a2 (b.Taken.drop (i + 1)) < (b.Taken.drop (i + 1)).length
      · rw [if_pos d, if_pos (by omega)]
        congr 2; omega
      · rw [if_neg d, if_neg (by omega)]
/-- How many are ahead: the law counts. -/
theorem jn_loop {x30 : TBlock} {a1 x11 x12 : Int} {x9 : TBuddy} (hl : b.Taken.length ≤ 2000) : ∀ (r i : Nat), i + r = b.Taken.length → ∀ n, r < n →
    m3_quirlaw_BuddySays_L3 b x30 a1 x9 x11 x12 n i = m3_quirlaw_BuddySays_K12 b x30 a1 x9 x11 x12 ((i + jn x30.At (b.Taken.drop i) : Nat) : Int) := by
  intro r
  induction r with
  | zero =>
    intro i hi n hn
    obtain ⟨n, rfl⟩ := dec n hn
    rw [m3_quirlaw_BuddySays_L3, m3_quirlaw_BuddySays_L3B, if_neg (by omega), List.drop_eq_nil_of_le (by omega)]
    rfl
  | succ r ih =>
    intro i hi n hn
    obtain ⟨n, rfl⟩ := dec n (by omega)
    have h1 : i < b.Taken.length := by omega
    rw [m3_quirlaw_BuddySays_L3, m3_quirlaw_BuddySays_L3B, if_pos (by omega), idx_ok h1, bind1_some, drop_cons h1]
    by_cases c : b.Taken[i].At < x30.At
    · rw [if_pos c, isucc i (by omega), bind1_some, ih (i + 1) (by omega) n (by omega)]
      have e : jn x30.At (b.Taken[i] :: b.Taken.drop (i + 1)) = jn x30.At (b.Taken.drop (i + 1)) + 1 := by simp [jn, c]
      rw [e]
      congr 2; omega
    · rw [if_neg c]
      have e : jn x30.At (b.Taken[i] :: b.Taken.drop (i + 1)) = 0 := by simp [jn, c]
      rw [e]; rfl
end
def none' : TBuddy := ⟨0, []⟩
section
variable {b : TBuddy} {F : List TBlock} {k : Int} {r : Bool}
/-- None of a size: the law goes on. -/
theorem size_none {x9 : TBuddy} {x11 x12 sz' : Int} {go1 : Int → Option Bool} (hF : F.length ≤ 1000000) : ∀ (d i : Nat), i + d = F.length → (∀ j (h : j < F.length), i ≤ j → F[j].Order ≠ sz') → ∀ n, d < n →
    m3_quirlaw_BuddySays_L2 F sz' b k x9 x11 x12 go1 n i = m3_quirlaw_BuddySays_K10 sz' go1 := by
  intro d
  induction d with
  | zero =>
    intro i hi h n hn
    obtain ⟨n, rfl⟩ := dec n hn
    rw [m3_quirlaw_BuddySays_L2, m3_quirlaw_BuddySays_L2B, if_neg (by omega)]
  | succ d ih =>
    intro i hi h n hn
    obtain ⟨n, rfl⟩ := dec n (by omega)
    have h1 : i < F.length := by omega
    rw [m3_quirlaw_BuddySays_L2, m3_quirlaw_BuddySays_L2B, if_pos (by omega), idx_ok h1, bind1_some, if_neg (h i h1 (Nat.le_refl _)), m3_quirlaw_BuddySays_K11, isucc i (by omega), bind1_some]
    exact ih (i + 1) (by omega) (fun j hj hij => h j hj (by omega)) n (by omega)
/-- One of a size: the first is taken. -/
theorem size_some {x9 : TBuddy} {x11 x12 sz' : Int} {go1 : Int → Option Bool} (hF : F.length ≤ 1000000) {s : Nat} (hs : s < F.length) (hsz : F[s].Order = sz') (hfst : ∀ j (h : j < F.length), j < s → F[j].Order ≠ sz') : ∀ (d i : Nat), i + d = s → ∀ n, d < n →
    m3_quirlaw_BuddySays_L2 F sz' b k x9 x11 x12 go1 n i = m3_quirlaw_BuddySays_L3 b F[s] k x9 x11 x12 big 0 := by
  intro d
  induction d with
  | zero =>
    intro i hi n hn
    obtain ⟨n, rfl⟩ := dec n hn
    have : i = s := by omega
    subst this
    rw [m3_quirlaw_BuddySays_L2, m3_quirlaw_BuddySays_L2B, if_pos (by omega), idx_ok hs, bind1_some, if_pos hsz]
  | succ d ih =>
    intro i hi n hn
    obtain ⟨n, rfl⟩ := dec n (by omega)
    have h1 : i < F.length := by omega
    rw [m3_quirlaw_BuddySays_L2, m3_quirlaw_BuddySays_L2B, if_pos (by omega), idx_ok h1, bind1_some, if_neg (hfst i h1 (by omega)), m3_quirlaw_BuddySays_K11, isucc i (by omega), bind1_some]
    exact ih (i + 1) (by omega) n (by omega)
/-- The law looks through the sizes. -/
theorem sizes_none {B : Nat} {x9 : TBuddy} {x11 x12 : Int} (hB : B ≤ 10) (hb : b.Order = B) (hF : F.length ≤ 1000000) : ∀ (d : Nat) (z : Int), z + d = B + 1 → 0 ≤ z → (∀ j (h : j < F.length), F[j].Order < z) → ∀ n, d < n → m3_quirlaw_BuddySays_L1 b F k x9 x11 x12 n z = m3_quirlaw_BuddySays_K7 x9 x11 x12 := by
  intro d
  induction d with
  | zero =>
    intro z hz h0 h n hn
    obtain ⟨n, rfl⟩ := dec n hn
    rw [m3_quirlaw_BuddySays_L1, m3_quirlaw_BuddySays_L1B, if_neg (by omega)]
  | succ d ih =>
    intro z hz h0 h n hn
    obtain ⟨n, rfl⟩ := dec n (by omega)
    have h3 := size_none (b := b) (k := k) (x9 := x9) (x11 := x11) (x12 := x12) (sz' := z) (go1 := m3_quirlaw_BuddySays_L1 b F k x9 x11 x12 n) hF F.length 0 (by omega) (fun j hj _ => by have := h j hj; omega) big (lt_big (by omega))
    have h3' : m3_quirlaw_BuddySays_L2 F z b k x9 x11 x12 (m3_quirlaw_BuddySays_L1 b F k x9 x11 x12 n) big 0 = m3_quirlaw_BuddySays_K10 z (m3_quirlaw_BuddySays_L1 b F k x9 x11 x12 n) := h3
    rw [m3_quirlaw_BuddySays_L1, m3_quirlaw_BuddySays_L1B, if_pos (by omega), m3_quirlaw_BuddySays_K9, h3', m3_quirlaw_BuddySays_K10, i64_ok (by omega) (by omega), bind1_some]
    exact ih (z + 1) (by omega) (by omega) (fun j hj => by have := h j hj; omega) n (by omega)
theorem sizes_some {B : Nat} {x9 : TBuddy} {x11 x12 : Int} (hB : B ≤ 10) (hb : b.Order = B) (hF : F.length ≤ 1000000) {s : Nat} (hs : s < F.length) (hsB : F[s].Order ≤ B) : ∀ (d : Nat) (z : Int), z + d = F[s].Order → 0 ≤ z → (∀ j (h : j < F.length), z ≤ F[j].Order → F[s].Order < F[j].Order ∨ (F[s].Order = F[j].Order ∧ s ≤ j)) → ∀ n, d < n →
    m3_quirlaw_BuddySays_L1 b F k x9 x11 x12 n z = m3_quirlaw_BuddySays_L3 b F[s] k x9 x11 x12 big 0 := by
  intro d
  induction d with
  | zero =>
    intro z hz h0 h n hn
    obtain ⟨n, rfl⟩ := dec n hn
    have h3 := size_some (b := b) (k := k) (x9 := x9) (x11 := x11) (x12 := x12) (sz' := z) (go1 := m3_quirlaw_BuddySays_L1 b F k x9 x11 x12 n) hF hs (by omega) (fun j hj hjs hje => by have := h j hj (by omega); omega) s 0 (by omega) big (lt_big (by omega))
    rw [m3_quirlaw_BuddySays_L1, m3_quirlaw_BuddySays_L1B, if_pos (by omega), m3_quirlaw_BuddySays_K9]
    exact h3
  | succ d ih =>
    intro z hz h0 h n hn
    obtain ⟨n, rfl⟩ := dec n (by omega)
    have h3 := size_none (b := b) (k := k) (x9 := x9) (x11 := x11) (x12 := x12) (sz' := z) (go1 := m3_quirlaw_BuddySays_L1 b F k x9 x11 x12 n) hF F.length 0 (by omega) (fun j hj _ hje => by have := h j hj (by omega); omega) big (lt_big (by omega))
    have h3' : m3_quirlaw_BuddySays_L2 F z b k x9 x11 x12 (m3_quirlaw_BuddySays_L1 b F k x9 x11 x12 n) big 0 = m3_quirlaw_BuddySays_K10 z (m3_quirlaw_BuddySays_L1 b F k x9 x11 x12 n) := h3
    rw [m3_quirlaw_BuddySays_L1, m3_quirlaw_BuddySays_L1B, if_pos (by omega), m3_quirlaw_BuddySays_K9, h3', m3_quirlaw_BuddySays_K10, i64_ok (by omega) (by omega), bind1_some]
    exact ih (z + 1) (by omega) (by omega) (fun j hj hz => h j hj (by omega)) n (by omega)
end
/-- Take's answer, as the law looks at it. -/
theorem take_law {b : TBuddy} {B : Nat} (hB : B ≤ 10) (hb : b.Order = B) (hO : Okb B 0 b.Taken) (k : Int) : ∃ x n f, m6_buddy_Take_K1 k b (fr B b.Taken 0) = some (x, n, f) ∧ m3_quirlaw_BuddySays_K5 k x n f b (fr B b.Taken 0) = some true := by
  have hS := ok_small hB hO
  have hSl := hS.1
  have hT := ok_srt (Int.le_refl 0) hO
  have hpB := pw_le hB
  have hFl := fr_len B b.Taken 0
  have hF : (fr B b.Taken 0).length ≤ 1000000 := by omega
  have hnone := same_self (b := (⟨0, []⟩ : TBuddy)) (by simp)
  have hbad : m3_quirlaw_BuddySays_K15 ⟨0, []⟩ 0 1 b (fr B b.Taken 0) k true = some true := by
    rw [m3_quirlaw_BuddySays_K15, if_pos rfl, hnone, bind1_some, if_pos rfl, if_pos rfl, m3_quirlaw_BuddySays_K16, if_pos rfl]; rfl
  rw [m6_buddy_Take_K1]
  by_cases c1 : k < 0
  · rw [if_pos c1]
    refine ⟨_, _, _, rfl, ?_⟩
    rw [m3_quirlaw_BuddySays_K5, if_pos c1]
    exact hbad
  by_cases c2 : b.Order < k
  · rw [if_neg c1, if_pos c2]
    refine ⟨_, _, _, rfl, ?_⟩
    rw [m3_quirlaw_BuddySays_K5, if_neg c1, if_pos c2]
    exact hbad
  rw [if_neg c1, if_neg c2, m6_buddy_Take_K2]
  obtain ⟨q, hq, h1⟩ := best_loop (b := b) (F := fr B b.Taken 0) (k := k) hF (fr B b.Taken 0).length 0 (by omega) (-1) (.inl ⟨rfl, fun j hj h => by omega⟩) (fun s hs => by omega) big (lt_big (by omega))
  have h1' : m6_buddy_Take_L1 (fr B b.Taken 0) k b big (-1) 0 = m6_buddy_Take_K3 (fr B b.Taken 0) b k q := h1
  rw [h1', m6_buddy_Take_K3]
  rcases hq with ⟨rfl, h2⟩ | ⟨s, hs, rfl, h2, h3⟩
  · rw [if_pos (by omega)]
    refine ⟨_, _, _, rfl, ?_⟩
    obtain ⟨d, hd⟩ : ∃ d : Nat, k + d = B + 1 := ⟨(B + 1 - k).toNat, by omega⟩
    rw [m3_quirlaw_BuddySays_K5, if_neg c1, if_neg c2, m3_quirlaw_BuddySays_K15, if_neg ff, m3_quirlaw_BuddySays_K6, sizes_none hB hb hF d k hd (by omega) (fun j hj => h2 j hj hj) big (lt_big (by omega)), m3_quirlaw_BuddySays_K7, hnone, bind1_some, if_pos rfl, if_pos rfl, m3_quirlaw_BuddySays_K8, if_pos rfl]
    rfl
  · generalize hFe : fr B b.Taken 0 = F at *
    have hw := fr_mem B b.Taken 0 F[s] (by rw [hFe]; exact List.getElem_mem hs)
    have hnew := fr_new (o := B) (l := b.Taken) (a := 0) (y := F[s]) (by rw [hFe]; exact List.getElem_mem hs)
    have hj := jn_le F[s].At b.Taken
    have hsrt := sort_ins (y := ⟨F[s].At, k⟩) hT hSl hnew
    simp only at hsrt
    rw [if_neg (by omega), m6_buddy_Take_K4, idx_ok hs, bind1_some, clone_self (by omega), bind1_some, app_ok (by simp only [List.length_singleton]; omega), bind1_some, m6_buddy_Take_K5, hsrt, bind1_some, idx_ok hs, bind1_some]
    refine ⟨_, _, _, rfl, ?_⟩
    obtain ⟨d, hd⟩ : ∃ d : Nat, k + d = F[s].Order := ⟨(F[s].Order - k).toNat, by omega⟩
    have hjl := jn_loop (b := b) (x30 := F[s]) (a1 := k) (x11 := F[s].At) (x12 := 0) (x9 := ⟨b.Order, b.Taken.take (jn F[s].At b.Taken) ++ [⟨F[s].At, k⟩] ++ b.Taken.drop (jn F[s].At b.Taken)⟩) hSl b.Taken.length 0 (by omega) big (lt_big (by omega))
    rw [List.drop_zero, Nat.zero_add] at hjl
    have hjl' : m3_quirlaw_BuddySays_L3 b F[s] k ⟨b.Order, b.Taken.take (jn F[s].At b.Taken) ++ [⟨F[s].At, k⟩] ++ b.Taken.drop (jn F[s].At b.Taken)⟩ F[s].At 0 big 0 = m3_quirlaw_BuddySays_K12 b F[s] k ⟨b.Order, b.Taken.take (jn F[s].At b.Taken) ++ [⟨F[s].At, k⟩] ++ b.Taken.drop (jn F[s].At b.Taken)⟩ F[s].At 0 ((jn F[s].At b.Taken : Nat) : Int) := hjl
    rw [m3_quirlaw_BuddySays_K5, if_neg c1, if_neg c2, m3_quirlaw_BuddySays_K15, if_neg ff, m3_quirlaw_BuddySays_K6, sizes_some hB hb hF hs (by omega) d k hd (by omega) (fun j hj hk => h3 j hj hj hk) big (lt_big (by omega)), hjl', m3_quirlaw_BuddySays_K12, clone_self (by omega), bind1_some]
    unfold xInsR
    rw [if_pos ⟨by omega, by omega, by omega⟩, bind1_some, m3_quirlaw_BuddySays_K13, Int.toNat_natCast, same_self (by simp only [List.length_append, List.length_take, List.length_drop, List.length_singleton]; omega), bind1_some, if_pos rfl, if_pos rfl, m3_quirlaw_BuddySays_K14, if_pos rfl]
    rfl
/-- The law, of what is right. -/
theorem good_law {b : TBuddy} {B : Nat} (hB : B ≤ 10) (hb : b.Order = B) (hO : Okb B 0 b.Taken) (k a2 : Int) {x9 : TBuddy} {x11 x12 : Int} (ht : m3_quirlaw_BuddySays_K5 k x9 x11 x12 b (fr B b.Taken 0) = some true) :
    ∃ y g, m7_buddy_Drop_K1 b a2 = some (y, g) ∧ m3_quirlaw_BuddySays_K2 b (fr B b.Taken 0) 0 a2 y g k x9 x11 x12 = some true := by
  have hS := ok_small hB hO
  have hSl := hS.1
  have hpB := pw_le hB
  have hFl := fr_len B b.Taken 0
  have hnone := same_self (b := (⟨0, []⟩ : TBuddy)) (by simp)
  have hi := ixA_le a2 b.Taken
  have hdl := drop_loop (b := b) (a2 := a2) hSl b.Taken.length 0 (by omega) big (lt_big (by omega))
  rw [List.drop_zero, Nat.zero_add] at hdl
  have hdl' : m7_buddy_Drop_L1 b a2 big 0 = m7_buddy_Drop_K2 b (if ixA a2 b.Taken < b.Taken.length then ((ixA a2 b.Taken : Nat) : Int) else -1) := hdl
  have hll : ∀ (y : TBuddy) (g : Int), m3_quirlaw_BuddySays_L4 b a2 y g k x9 x11 x12 (fr B b.Taken 0) big 0 = m3_quirlaw_BuddySays_K4 y g k x9 x11 x12 b (fr B b.Taken 0) (if ixA a2 b.Taken < b.Taken.length then ((ixA a2 b.Taken : Nat) : Int) else -1) := by
    intro y g
    have := law_drop_loop (b := b) (a2 := a2) (x15 := y) (x17 := g) (a1 := k) (x9 := x9) (x11 := x11) (x12 := x12) (F := fr B b.Taken 0) hSl b.Taken.length 0 (by omega) big (lt_big (by omega))
    rw [List.drop_zero, Nat.zero_add] at this
    exact this
  have hhead : ∀ (y : TBuddy) (g : Int), m3_quirlaw_BuddySays_K2 b (fr B b.Taken 0) 0 a2 y g k x9 x11 x12 = m3_quirlaw_BuddySays_K4 y g k x9 x11 x12 b (fr B b.Taken 0) (if ixA a2 b.Taken < b.Taken.length then ((ixA a2 b.Taken : Nat) : Int) else -1) := by
    intro y g
    rw [m3_quirlaw_BuddySays_K2, bfree_eq hB hb hO, bind1_some, equal_self (by omega), bind1_some, if_pos rfl, if_neg (by simp), m3_quirlaw_BuddySays_K3, hll]
  rw [m7_buddy_Drop_K1, hdl']
  by_cases c : ixA a2 b.Taken < b.Taken.length
  · have hdd : xDelR b.Taken ((ixA a2 b.Taken : Nat) : Int) ((ixA a2 b.Taken + 1 : Nat) : Int) = some (gone b.Taken a2) := by
      unfold xDelR
      rw [if_pos ⟨by omega, by omega, by omega, by omega⟩]
      rfl
    have hgl := gone_len b.Taken a2
    rw [if_pos c, m7_buddy_Drop_K2, if_neg (by omega), m7_buddy_Drop_K3, isucc _ (by omega), bind1_some, clone_self (by omega), bind1_some, hdd, bind1_some]
    refine ⟨_, _, rfl, ?_⟩
    rw [hhead, if_pos c, m3_quirlaw_BuddySays_K4, if_neg (by omega), m3_quirlaw_BuddySays_K17, if_neg ff, cut_take _ _ (by omega), bind1_some, isucc _ (by omega), bind1_some, cut_drop _ _ (by omega), bind1_some, concat_two (by rw [List.length_take, List.length_drop]; omega), bind1_some]
    have hsame : m9_quirref_SameBuddy ⟨b.Order, gone b.Taken a2⟩ ⟨b.Order, b.Taken.take (ixA a2 b.Taken) ++ b.Taken.drop (ixA a2 b.Taken + 1)⟩ = some true := same_self (b := ⟨b.Order, gone b.Taken a2⟩) (by simp only; omega)
    rw [hsame, bind1_some, if_pos rfl, if_neg (by simp)]
    exact ht
  · rw [if_neg c, m7_buddy_Drop_K2, if_pos (by omega)]
    refine ⟨_, _, rfl, ?_⟩
    rw [hhead, if_neg c, m3_quirlaw_BuddySays_K4, if_pos (by omega), m3_quirlaw_BuddySays_K17, if_pos rfl, hnone, bind1_some, if_pos rfl, if_neg (by simp)]
    exact ht
theorem buddy_true (b : TBuddy) (k a2 : Int) (hl : b.Taken.length ≤ 9223372036854775807) : m3_quirlaw_BuddySays b k a2 = some true := by
  obtain ⟨hc, he⟩ := check_err b hl
  have hnone := same_self (b := (⟨0, []⟩ : TBuddy)) (by simp)
  rw [m3_quirlaw_BuddySays, he, bind1_some, m5_buddy_Free, m6_buddy_Take, m5_buddy_Free, m7_buddy_Drop, hc]
  simp only [bind1_some]
  by_cases c : errOf b = 0
  · have hB : b.Order.toNat ≤ 10 ∧ b.Order = (b.Order.toNat : Int) ∧ Okb b.Order.toNat 0 b.Taken := by
      unfold errOf at c
      split at c
      · cases c
      · split at c
        · cases c
        · split at c
          · exact ⟨by omega, by omega, by assumption⟩
          · cases c
    obtain ⟨hB, hb, hO⟩ := hB
    have hpB := pw_le hB
    have hfree : m17_buddy_free b.Taken 0 b.Order = some (fr b.Order.toNat b.Taken 0) := by
      have := free_eq b.Order.toNat hB b.Taken 0 (ok_small hB hO) (Int.le_refl 0) (by omega) big (lt_big (by omega))
      rw [← hb] at this
      exact this
    rw [c, if_neg (by simp), hfree, bind1_some, bind2_some, bind2_some, if_neg (by simp)]
    obtain ⟨x, n, f, h1, h2⟩ := take_law hB hb hO k
    obtain ⟨y, g, h3, h4⟩ := good_law hB hb hO k a2 h2
    rw [h1, bind3_some, if_neg (by simp), h3, bind2_some, if_neg (by simp), m3_quirlaw_BuddySays_K1, if_neg (by simp)]
    exact h4
  · rw [if_pos c, bind2_some, bind2_some, if_pos c, bind3_some, if_pos c, bind2_some, if_neg (by simp), m3_quirlaw_BuddySays_K1, if_pos c, if_pos (by simp), if_pos rfl, m3_quirlaw_BuddySays_K20, if_pos rfl, hnone, bind1_some, if_pos rfl, if_pos rfl, m3_quirlaw_BuddySays_K21, if_pos rfl, if_pos rfl, hnone, bind1_some, if_pos rfl, m3_quirlaw_BuddySays_K22, if_pos rfl]
    simp
end Go.Proofs.Ytanpiecpmmcaeaa
