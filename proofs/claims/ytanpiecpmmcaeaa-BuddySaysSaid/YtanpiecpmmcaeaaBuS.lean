/-
  Package buddy: the document's free blocks are the same.
  Conditions: none.
-/
import Derived.Test.YtanpiecpmmcaeaaBuF
namespace Go.Proofs.Ytanpiecpmmcaeaa
open Go.S
set_option linter.unusedVariables false
set_option linter.unusedSimpArgs false
theorem has_loop (l : List Bool) (hl : l.length ≤ 1000000) : ∀ (r i : Nat), i + r = l.length → ∀ n, r < n → ∃ v, m31_slices_Index_bool_L1 l true n i = some v ∧ (0 ≤ v ↔ true ∈ l.drop i) := by
  intro r
  induction r with
  | zero =>
    intro i hi n hn
    obtain ⟨n, rfl⟩ := dec n hn
    rw [m31_slices_Index_bool_L1, m31_slices_Index_bool_L1B, if_neg (by omega), List.drop_eq_nil_of_le (by omega)]
    exact ⟨_, rfl, by simp⟩
  | succ r ih =>
    intro i hi n hn
    obtain ⟨n, rfl⟩ := dec n (by omega)
    have h1 : i < l.length := by omega
    rw [m31_slices_Index_bool_L1, m31_slices_Index_bool_L1B, if_pos (by omega), idx_ok h1, bind1_some, drop_cons h1]
    cases hb : l[i] with
    | true => rw [if_pos (by simp)]; exact ⟨_, rfl, by simp⟩
    | false =>
      rw [if_neg (by simp), isucc i (by omega), bind1_some]
      obtain ⟨v, h2, h3⟩ := ih (i + 1) (by omega) n (by omega)
      exact ⟨v, h2, by rw [h3]; simp⟩
theorem has_eq (l : List Bool) (hl : l.length ≤ 1000000) : m24_slices_Contains_bool l true = some (decide (true ∈ l)) := by
  obtain ⟨v, h1, h2⟩ := has_loop l hl l.length 0 (by omega) big (lt_big (by omega))
  rw [List.drop_zero] at h2
  rw [m24_slices_Contains_bool, m31_slices_Index_bool, show (0 : Int) = ((0 : Nat) : Int) from rfl, h1, bind1_some]
  congr 1
  exact decide_eq_decide.2 h2
/-- The document's row of places. -/
def Cv (B : Nat) (T : List TBlock) (arr : List Bool) : Prop := arr.length = 2 ^ B ∧ ∀ p (h : p < arr.length), arr[p] = true ↔ cov T p
section
variable {B : Nat} {b : TBuddy} {arr : List Bool}
theorem mark2 {x : TBlock} {i : Nat} {go3 : Int → List Bool → Option (List TBlock)} (hx0 : 0 ≤ x.At) (hxB : x.At + sz x ≤ (2 ^ B : Nat)) (hB : B ≤ 10) : ∀ (r q : Nat) (arr : List Bool), q + r = sz x → arr.length = 2 ^ B → ∀ n, r < n →
    ∃ arr' : List Bool, arr'.length = 2 ^ B ∧ (∀ p (h : p < arr.length) (h' : p < arr'.length), arr'[p] = true ↔ (arr[p] = true ∨ (x.At + q ≤ p ∧ (p : Int) < x.At + sz x))) ∧ m10_quirref_BuddyFree_L4 (sz x) x i go3 n q arr = m10_quirref_BuddyFree_K7 i go3 arr' := by
  have hpB := pw_le hB
  intro r
  induction r with
  | zero =>
    intro q arr hq hl n hn
    obtain ⟨n, rfl⟩ := dec n hn
    refine ⟨arr, hl, fun p h h' => ?_, ?_⟩
    · constructor
      · exact fun h => Or.inl h
      · rintro (h | h)
        · exact h
        · omega
    · rw [m10_quirref_BuddyFree_L4, m10_quirref_BuddyFree_L4B, if_neg (by omega)]
  | succ r ih =>
    intro q arr hq hl n hn
    obtain ⟨n, rfl⟩ := dec n (by omega)
    obtain ⟨a, ha⟩ := Int.eq_ofNat_of_zero_le hx0
    have hlt : a + q < arr.length := by omega
    have e1 : x.At + (q : Int) = ((a + q : Nat) : Int) := by omega
    obtain ⟨arr', h1, h2, h3⟩ := ih (q + 1) (arr.set (a + q) true) (by omega) (by rw [List.length_set]; exact hl) n (by omega)
    refine ⟨arr', h1, fun p h h' => ?_, ?_⟩
    · rw [h2 p (by rw [List.length_set]; exact h) h', List.getElem_set]
      by_cases c : a + q = p
      · rw [if_pos c]
        simp only [true_or, true_iff]
        right; omega
      · rw [if_neg c]
        constructor
        · rintro (h4 | h4)
          · exact Or.inl h4
          · right; omega
        · rintro (h4 | h4)
          · exact Or.inl h4
          · right; omega
    · rw [m10_quirref_BuddyFree_L4, m10_quirref_BuddyFree_L4B, if_pos (by omega), e1, i64_ok (by omega) (by omega), bind1_some, idx_ok hlt, bind1_some, upd_ok _ hlt, bind1_some, isucc q (by omega), bind1_some, h3]
theorem marks2 (hB : B ≤ 10) (hb : b.Order = B) (hO : Okb B 0 b.Taken) : ∀ (r i : Nat), i + r = b.Taken.length → ∀ (arr : List Bool), Cv B (b.Taken.take i) arr → ∀ n, r < n → ∃ arr', Cv B b.Taken arr' ∧ m10_quirref_BuddyFree_L3 b (2 ^ B : Nat) n i arr = m10_quirref_BuddyFree_K1 (2 ^ B : Nat) b arr' := by
  have hS := ok_small hB hO
  have hSl := hS.1
  intro r
  induction r with
  | zero =>
    intro i hi arr hC n hn
    obtain ⟨n, rfl⟩ := dec n hn
    refine ⟨arr, by rw [List.take_of_length_le (by omega)] at hC; exact hC, ?_⟩
    rw [m10_quirref_BuddyFree_L3, m10_quirref_BuddyFree_L3B, if_neg (by omega)]
  | succ r ih =>
    intro i hi arr hC n hn
    obtain ⟨n, rfl⟩ := dec n (by omega)
    have h1 : i < b.Taken.length := by omega
    have hx := ok_mem (Int.le_refl 0) hO b.Taken[i] (List.getElem_mem h1)
    have hxs := hS.2 b.Taken[i] (List.getElem_mem h1)
    have hz := szS hxs.1.1 hxs.1.2
    obtain ⟨arr', h2, h3, h4⟩ := mark2 (x := b.Taken[i]) (i := i) (go3 := m10_quirref_BuddyFree_L3 b (2 ^ B : Nat) n) hx.2.1 hx.2.2.2 hB (sz b.Taken[i]) 0 arr (by omega) hC.1 big (lt_big (by omega))
    have h5 : m10_quirref_BuddyFree_L4 (sz b.Taken[i]) b.Taken[i] i (m10_quirref_BuddyFree_L3 b (2 ^ B : Nat) n) big 0 arr = m10_quirref_BuddyFree_K7 i (m10_quirref_BuddyFree_L3 b (2 ^ B : Nat) n) arr' := h4
    have hC' : Cv B (b.Taken.take (i + 1)) arr' := by
      refine ⟨h2, fun p hp => ?_⟩
      have hp0 : p < arr.length := by rw [hC.1, ← h2]; exact hp
      rw [h3 p hp0 hp, hC.2 p hp0, take_snoc h1]
      unfold cov
      constructor
      · rintro (⟨x, h6, h7⟩ | h6)
        · exact ⟨x, List.mem_append_left _ h6, h7⟩
        · exact ⟨b.Taken[i], List.mem_append_right _ (List.mem_singleton.2 rfl), by omega, h6.2⟩
      · rintro ⟨x, h6, h7⟩
        rcases List.mem_append.1 h6 with h6 | h6
        · exact Or.inl ⟨x, h6, h7⟩
        · simp only [List.mem_singleton] at h6
          subst h6
          right; omega
    obtain ⟨arr2, h6, h7⟩ := ih (i + 1) (by omega) arr' hC' n (by omega)
    refine ⟨arr2, h6, ?_⟩
    rw [m10_quirref_BuddyFree_L3, m10_quirref_BuddyFree_L3B, if_pos (by omega), idx_ok h1, bind1_some, shlO hB hx.1.1 hx.1.2, bind1_some, h5, m10_quirref_BuddyFree_K7, isucc i (by omega), bind1_some, h7]
/-- A place's block of an order. -/
def blk (a j : Nat) : Nat := a / 2 ^ j * 2 ^ j
theorem blk_le (a j : Nat) : blk a j ≤ a := Nat.div_mul_le_self a (2 ^ j)
theorem blk_fit {a j : Nat} (h : a < 2 ^ B) (hj : j ≤ B) : blk a j + 2 ^ j ≤ 2 ^ B := by
  have h1 := blk_le a j
  exact dvd_add_le (Nat.dvd_mul_left _ _) (Nat.pow_dvd_pow 2 hj) (by omega)
theorem blk_self {a j : Nat} (h : 2 ^ j ∣ a) : blk a j = a := Nat.div_mul_cancel h
theorem is_eq {a j : Nat} {T : List TBlock} (hB : B ≤ 10) (hC : Cv B T arr) (ha : a < 2 ^ B) (hj : j ≤ B) :
    ∃ l, cut arr ((blk a j : Nat) : Int) ((blk a j + 2 ^ j : Nat) : Int) = some l ∧ l.length ≤ 1024 ∧ (true ∈ l ↔ ∃ p, blk a j ≤ p ∧ p < blk a j + 2 ^ j ∧ cov T p) := by
  have hf := blk_fit ha hj
  have hpB := pw_le hB
  have hpj := pw_pos j
  have hcl := hC.1
  refine ⟨_, cut_ok (by omega) (by omega) (by omega), ?_, ?_⟩
  · simp only [Int.toNat_natCast, List.length_drop, List.length_take]; omega
  · simp only [Int.toNat_natCast]
    constructor
    · intro h
      obtain ⟨q, hq, hg⟩ := List.getElem_of_mem h
      simp only [List.length_drop, List.length_take] at hq
      rw [List.getElem_drop, List.getElem_take] at hg
      exact ⟨blk a j + q, by omega, by omega, (hC.2 _ (by omega)).1 hg⟩
    · rintro ⟨p, h1, h2, h3⟩
      have h4 := (hC.2 p (by omega)).2 h3
      refine List.mem_of_getElem? (i := p - blk a j) ?_
      rw [List.getElem?_drop, List.getElem?_take_of_lt (by omega), List.getElem?_eq_getElem (by omega)]
      simp only [show blk a j + (p - blk a j) = p by omega, h4]
open Classical in
theorem grow_loop {T : List TBlock} {a o : Nat} {out : List TBlock} {go1 : List TBlock → Int → Option (List TBlock)} (hB : B ≤ 10) (hb : b.Order = B) (hC : Cv B T arr) (ho : o ≤ B) (hd : 2 ^ o ∣ a) (haB : a + 2 ^ o ≤ 2 ^ B) (hfree : ov T a o = [])
    (hpar : o = B ∨ ∃ p, blk a (o + 1) ≤ p ∧ p < blk a (o + 1) + 2 ^ (o + 1) ∧ cov T p) : ∀ (d j : Nat), j + d = o → ∀ n, d < n → m10_quirref_BuddyFree_L2 b a arr out go1 n j = m10_quirref_BuddyFree_K5 out a go1 o := by
  have hpB := pw_le hB
  have hpo := pw_pos o
  have step : ∀ (j n : Nat), j + 1 ≤ B → (if ((j + 1 : Nat) : Int) ≤ b.Order then bind1 (shrW .i64 (a : Int) ((j + 1 : Nat) : Int)) fun x14 => bind1 (shlW .i64 x14 ((j + 1 : Nat) : Int)) fun x15 => bind1 (shrW .i64 (a : Int) ((j + 1 : Nat) : Int)) fun x16 => bind1 (shlW .i64 x16 ((j + 1 : Nat) : Int)) fun x17 => bind1 (shlW .i64 1 ((j + 1 : Nat) : Int)) fun x18 => bind1 (i64 (x17 + x18)) fun x19 => bind1 (cut arr x15 x19) fun l20 => bind1 (m24_slices_Contains_bool l20 true) fun b21 => m10_quirref_BuddyFree_K6 j (m10_quirref_BuddyFree_L2 b a arr out go1 n) out a go1 (!b21) else m10_quirref_BuddyFree_K6 j (m10_quirref_BuddyFree_L2 b a arr out go1 n) out a go1 false)
      = m10_quirref_BuddyFree_K6 j (m10_quirref_BuddyFree_L2 b a arr out go1 n) out a go1 (!decide (∃ p, blk a (j + 1) ≤ p ∧ p < blk a (j + 1) + 2 ^ (j + 1) ∧ cov T p)) := by
    intro j n hj
    have h1 := blk_le a (j + 1)
    have h2 := pw_le (o := j + 1) (by omega)
    have h2p := pw_pos (j + 1)
    obtain ⟨l, h3, h4, h5⟩ := is_eq (a := a) (j := j + 1) hB hC (by omega) hj
    have h6 : shlW .i64 ((a / 2 ^ (j + 1) : Nat) : Int) ((j + 1 : Nat) : Int) = some ((blk a (j + 1) : Nat) : Int) := shl_nat (by omega) (by unfold blk at h1; omega)
    rw [if_pos (by omega), shr_nat (by omega) (by omega), bind1_some, h6, bind1_some, bind1_some, h6, bind1_some, shl1 (by omega), bind1_some, i64_ok (by omega) (by omega), bind1_some,
      show ((blk a (j + 1) : Nat) : Int) + ((2 ^ (j + 1) : Nat) : Int) = ((blk a (j + 1) + 2 ^ (j + 1) : Nat) : Int) from rfl, h3, bind1_some, has_eq l (by omega), bind1_some]
    congr 2
    exact decide_eq_decide.2 h5
  intro d
  induction d with
  | zero =>
    intro j hj n hn
    obtain ⟨n, rfl⟩ := dec n hn
    have hjo : j = o := by omega
    subst hjo
    rw [m10_quirref_BuddyFree_L2, m10_quirref_BuddyFree_L2B, isucc j (by omega), bind1_some]
    by_cases c : j = B
    · rw [if_neg (by omega), m10_quirref_BuddyFree_K6, if_neg ff]
    · rw [step j n (by omega)]
      rcases hpar with h | h
      · exact absurd h c
      · rw [decide_eq_true h, m10_quirref_BuddyFree_K6, if_neg (by simp)]
  | succ d ih =>
    intro j hj n hn
    obtain ⟨n, rfl⟩ := dec n (by omega)
    rw [m10_quirref_BuddyFree_L2, m10_quirref_BuddyFree_L2B, isucc j (by omega), bind1_some, step j n (by omega)]
    have hsub : 2 ^ (j + 1) ≤ 2 ^ o := Nat.pow_le_pow_right (by omega) (by omega)
    have hbs : blk a (j + 1) = a := blk_self (Nat.dvd_trans (Nat.pow_dvd_pow 2 (by omega)) hd)
    have hno : ¬ ∃ p, blk a (j + 1) ≤ p ∧ p < blk a (j + 1) + 2 ^ (j + 1) ∧ cov T p := by
      rintro ⟨p, h1, h2, h3⟩
      rw [hbs] at h1 h2
      exact ov_nil.1 hfree p h1 (by omega) h3
    rw [decide_eq_false hno, m10_quirref_BuddyFree_K6, if_pos (by simp), isucc j (by omega), bind1_some, ih (j + 1) (by omega) n (by omega)]
theorem cover {T : List TBlock} {x : TBlock} {a o : Nat} (hx : (0 ≤ x.Order ∧ x.Order ≤ B) ∧ 0 ≤ x.At ∧ x.At % (sz x : Int) = 0 ∧ x.At + sz x ≤ (2 ^ B : Nat)) (hd : 2 ^ o ∣ a) (hov : ovb a o x = true) (ho : (o : Int) ≤ x.Order) : x.At ≤ a ∧ ((a + 2 ^ o : Nat) : Int) ≤ x.At + sz x := by
  unfold ovb at hov
  simp only [Bool.and_eq_true, decide_eq_true_eq] at hov
  obtain ⟨y, hy⟩ := Int.eq_ofNat_of_zero_le hx.2.1
  have h1 : sz x ∣ y := by
    have h7 := hx.2.2.1
    rw [hy] at h7
    exact Int.natCast_dvd_natCast.1 (Int.dvd_of_emod_eq_zero h7)
  have h2 : 2 ^ o ∣ sz x := Nat.pow_dvd_pow 2 (by omega)
  have h3 := Nat.dvd_trans h2 h1
  constructor
  · by_cases c : y ≤ a
    · omega
    · have := dvd_add_le hd h3 (by omega)
      omega
  · have := dvd_add_le hd (Nat.dvd_add h3 h2) (by omega)
    omega
theorem skip_loop {T : List TBlock} {out : List TBlock} {r : List TBlock} (hB : B ≤ 10) (hC : Cv B T arr) {a e : Nat} (he : e ≤ 2 ^ B) (hall : ∀ p, a ≤ p → p < e → cov T p) (hfin : ∀ n', 2 ^ B - e < n' → m10_quirref_BuddyFree_L1 (2 ^ B : Nat) arr b n' out e = some r) : ∀ (m q : Nat), q + m = e → a ≤ q → ∀ n, 2 ^ B - q < n → m10_quirref_BuddyFree_L1 (2 ^ B : Nat) arr b n out q = some r := by
  have hpB := pw_le hB
  intro m
  induction m with
  | zero =>
    intro q hq _ n hn
    have : q = e := by omega
    subst this
    exact hfin n hn
  | succ m ih =>
    intro q hq haq n hn
    obtain ⟨n, rfl⟩ := dec n (by omega)
    have hlt : q < arr.length := by rw [hC.1]; omega
    have hc := (hC.2 q hlt).2 (hall q haq (by omega))
    rw [m10_quirref_BuddyFree_L1, m10_quirref_BuddyFree_L1B, if_pos (by omega), m10_quirref_BuddyFree_K3, idx_ok hlt, bind1_some, hc, if_pos rfl, isucc q (by omega), bind1_some]
    exact ih (q + 1) (by omega) (by omega) n (by omega)
theorem scan (hB : B ≤ 10) (hb : b.Order = B) (hO : Okb B 0 b.Taken) (hC : Cv B b.Taken arr) {r : List TBlock} : ∀ (o : Nat), o ≤ B → ∀ (a : Nat) (out : List TBlock), 2 ^ o ∣ a → a + 2 ^ o ≤ 2 ^ B → out.length ≤ a → (o = B ∨ ∃ p, blk a (o + 1) ≤ p ∧ p < blk a (o + 1) + 2 ^ (o + 1) ∧ cov b.Taken p) →
    (∀ n', 2 ^ B - (a + 2 ^ o) < n' → m10_quirref_BuddyFree_L1 (2 ^ B : Nat) arr b n' (out ++ fr o b.Taken a) ((a + 2 ^ o : Nat) : Int) = some r) → ∀ n, 2 ^ B - a < n → m10_quirref_BuddyFree_L1 (2 ^ B : Nat) arr b n out a = some r := by
  have hpB := pw_le hB
  have hfreeCase : ∀ (o : Nat), o ≤ B → ∀ (a : Nat) (out : List TBlock), 2 ^ o ∣ a → a + 2 ^ o ≤ 2 ^ B → out.length ≤ a → (o = B ∨ ∃ p, blk a (o + 1) ≤ p ∧ p < blk a (o + 1) + 2 ^ (o + 1) ∧ cov b.Taken p) → ov b.Taken a o = [] → fr o b.Taken a = [⟨a, o⟩] →
      (∀ n', 2 ^ B - (a + 2 ^ o) < n' → m10_quirref_BuddyFree_L1 (2 ^ B : Nat) arr b n' (out ++ fr o b.Taken a) ((a + 2 ^ o : Nat) : Int) = some r) → ∀ n, 2 ^ B - a < n → m10_quirref_BuddyFree_L1 (2 ^ B : Nat) arr b n out a = some r := by
    intro o ho a out hd haB hol hpar hov hfr hfin n hn
    have hpo := pw_pos o
    obtain ⟨n, rfl⟩ := dec n (by omega)
    have hlt : a < arr.length := by rw [hC.1]; omega
    have hc : ¬ arr[a] = true := fun h => ov_nil.1 hov a (by omega) (by omega) ((hC.2 a hlt).1 h)
    have hg := grow_loop (b := b) (out := out) (go1 := m10_quirref_BuddyFree_L1 (2 ^ B : Nat) arr b n) hB hb hC ho hd haB hov hpar o 0 (by omega) big (lt_big (by omega))
    have hg' : m10_quirref_BuddyFree_L2 b a arr out (m10_quirref_BuddyFree_L1 (2 ^ B : Nat) arr b n) big 0 = m10_quirref_BuddyFree_K5 out a (m10_quirref_BuddyFree_L1 (2 ^ B : Nat) arr b n) o := hg
    rw [m10_quirref_BuddyFree_L1, m10_quirref_BuddyFree_L1B, if_pos (by omega), m10_quirref_BuddyFree_K3, idx_ok hlt, bind1_some, if_neg hc, m10_quirref_BuddyFree_K4, hg', m10_quirref_BuddyFree_K5, app_ok (by simp only [List.length_singleton]; omega), bind1_some, shl1 (by omega), bind1_some, i64_ok (by omega) (by omega), bind1_some]
    have := hfin n (by omega)
    rw [hfr] at this
    exact this
  have hfullCase : ∀ (o : Nat), o ≤ B → ∀ (a : Nat) (out : List TBlock) (x : TBlock) (t : List TBlock), 2 ^ o ∣ a → a + 2 ^ o ≤ 2 ^ B → ov b.Taken a o = x :: t → (o : Int) ≤ x.Order → fr o b.Taken a = [] →
      (∀ n', 2 ^ B - (a + 2 ^ o) < n' → m10_quirref_BuddyFree_L1 (2 ^ B : Nat) arr b n' (out ++ fr o b.Taken a) ((a + 2 ^ o : Nat) : Int) = some r) → ∀ n, 2 ^ B - a < n → m10_quirref_BuddyFree_L1 (2 ^ B : Nat) arr b n out a = some r := by
    intro o ho a out x t hd haB hov hox hfr hfin n hn
    have hxm : x ∈ ov b.Taken a o := by rw [hov]; simp
    have hx := List.mem_filter.1 hxm
    have hc := cover (T := b.Taken) (ok_mem (Int.le_refl 0) hO x hx.1) hd hx.2 hox
    rw [hfr, List.append_nil] at hfin
    exact skip_loop hB hC (a := a) (e := a + 2 ^ o) haB (fun p h1 h2 => ⟨x, hx.1, by omega, by omega⟩) hfin (2 ^ o) a rfl (Nat.le_refl _) n hn
  intro o
  induction o with
  | zero =>
    intro ho a out hd haB hol hpar hfin n hn
    cases h : ov b.Taken a 0 with
    | nil => exact hfreeCase 0 ho a out hd haB hol hpar h (by unfold fr; rw [h]; rfl) hfin n hn
    | cons x t =>
      have hxm : x ∈ ov b.Taken a 0 := by rw [h]; simp
      have hx := ok_mem (Int.le_refl 0) hO x (List.mem_filter.1 hxm).1
      exact hfullCase 0 ho a out x t hd haB h (by omega) (by unfold fr; rw [h]) hfin n hn
  | succ o ih =>
    intro ho a out hd haB hol hpar hfin n hn
    cases h : ov b.Taken a (o + 1) with
    | nil => exact hfreeCase (o + 1) ho a out hd haB hol hpar h (by unfold fr; rw [h]) hfin n hn
    | cons x t =>
      by_cases c : ((o + 1 : Nat) : Int) ≤ x.Order
      · exact hfullCase (o + 1) ho a out x t hd haB h c (by unfold fr; rw [h]; simp only; rw [if_pos c]) hfin n hn
      · have hpo := pw_pos o
        have h2 : 2 ^ (o + 1) = 2 ^ o + 2 ^ o := by rw [Nat.pow_succ]; omega
        have hd1 : 2 ^ o ∣ a := Nat.dvd_trans (Nat.pow_dvd_pow 2 (by omega)) hd
        have hfr : fr (o + 1) b.Taken a = fr o b.Taken a ++ fr o b.Taken ((a + 2 ^ o : Nat) : Int) := by
          rw [fr, h]
          simp only
          rw [if_neg c, ← h, fr_ov (by omega) (by omega), show (a : Int) + ((2 ^ o : Nat) : Int) = ((a + 2 ^ o : Nat) : Int) from rfl, fr_ov (by omega) (by omega)]
        have hcv : ∃ p, a ≤ p ∧ p < a + 2 ^ (o + 1) ∧ cov b.Taken p := by
          have hne : ¬ ov b.Taken a (o + 1) = [] := by rw [h]; simp
          rw [ov_nil] at hne
          simp only [Classical.not_forall, Classical.not_not] at hne
          obtain ⟨p, h3, h4, h5⟩ := hne
          exact ⟨p, h3, h4, h5⟩
        have hb1 : blk a (o + 1) = a := blk_self hd
        have hb2 : blk (a + 2 ^ o) (o + 1) = a := by
          obtain ⟨q, hq⟩ := hd
          unfold blk
          have : (a + 2 ^ o) / 2 ^ (o + 1) = q := by
            rw [hq, Nat.mul_add_div (by omega), Nat.div_eq_of_lt (by omega)]; rfl
          rw [this, hq, Nat.mul_comm]
        refine ih (by omega) a out hd1 (by omega) hol (.inr (by rw [hb1]; exact hcv)) (fun n1 hn1 => ?_) n hn
        refine ih (by omega) (a + 2 ^ o) _ (Nat.dvd_add hd1 (Nat.dvd_refl _)) (by omega) (by rw [List.length_append]; have := fr_len o b.Taken a; omega) (.inr (by rw [hb2]; exact hcv)) (fun n2 hn2 => ?_) n1 hn1
        rw [List.append_assoc, ← hfr, show a + 2 ^ o + 2 ^ o = a + 2 ^ (o + 1) by omega]
        exact hfin n2 (by omega)
/-- BuddyFree. -/
theorem bfree_eq (hB : B ≤ 10) (hb : b.Order = B) (hO : Okb B 0 b.Taken) : m10_quirref_BuddyFree b = some (fr B b.Taken 0) := by
  have hpB := pw_le hB
  have hp0 := pw_pos B
  have hs := shl1 hB
  rw [m10_quirref_BuddyFree, hb, hs, bind1_some]
  unfold mk
  rw [if_pos ⟨by omega, by omega⟩, bind1_some, Int.toNat_natCast]
  have hC0 : Cv B (b.Taken.take 0) (List.replicate (2 ^ B) false) := by
    refine ⟨List.length_replicate, fun p hp => ?_⟩
    rw [List.getElem_replicate]
    simp [cov]
  have hSl := (ok_small hB hO).1
  obtain ⟨arr, hC, h1⟩ := marks2 hB hb hO b.Taken.length 0 (by omega) _ hC0 big (lt_big (by omega))
  have h1' : m10_quirref_BuddyFree_L3 b (2 ^ B : Nat) big 0 (List.replicate (2 ^ B) false) = m10_quirref_BuddyFree_K1 (2 ^ B : Nat) b arr := h1
  rw [h1', m10_quirref_BuddyFree_K1]
  have := scan hB hb hO hC (r := fr B b.Taken 0) B (Nat.le_refl _) 0 [] (Nat.dvd_zero _) (by omega) (by simp) (.inl rfl) (fun n' hn' => ?_) big (lt_big (by omega))
  · exact this
  · obtain ⟨n', rfl⟩ := dec n' (by omega)
    rw [m10_quirref_BuddyFree_L1, m10_quirref_BuddyFree_L1B, if_neg (by omega)]
    rfl
end
end Go.Proofs.Ytanpiecpmmcaeaa
