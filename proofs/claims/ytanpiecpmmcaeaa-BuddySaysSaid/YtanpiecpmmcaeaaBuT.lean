/-
  Package buddy: Take, Drop and the law's answer.
  Conditions: none.
-/
import Derived.Test.YtanpiecpmmcaeaaBuS
namespace Go.Proofs.Ytanpiecpmmcaeaa
open Go.S Go.Sort
set_option linter.unusedVariables false
set_option linter.unusedSimpArgs false
theorem equal_loop (l : List TBlock) (hl : l.length ≤ 1000000) : ∀ (r i : Nat), i + r = l.length → ∀ n, r < n → m11_api_Block_L1 l l n (i : Int) = some true := by
  intro r
  induction r with
  | zero =>
    intro i hi n hn
    obtain ⟨n, rfl⟩ := dec n hn
    rw [m11_api_Block_L1, m11_api_Block_L1B, if_neg (by omega)]; rfl
  | succ r ih =>
    intro i hi n hn
    obtain ⟨n, rfl⟩ := dec n (by omega)
    have h1 : i < l.length := by omega
    rw [m11_api_Block_L1, m11_api_Block_L1B, if_pos (by omega), idx_ok h1, bind1_some, bind1_some, if_neg (by simp), isucc i (by omega), bind1_some]
    exact ih (i + 1) (by omega) n (by omega)
theorem equal_self {l : List TBlock} (hl : l.length ≤ 1000000) : m11_api_Block l l = some true := by
  rw [m11_api_Block, if_neg (by simp)]
  exact equal_loop l hl l.length 0 (by omega) big (lt_big (by omega))
theorem same_self {b : TBuddy} (hl : b.Taken.length ≤ 1000000) : m9_quirref_SameBuddy b b = some true := by
  rw [m9_quirref_SameBuddy]
  simp [equal_self hl]
theorem clone_self {l : List TBlock} (hl : l.length ≤ 1000000) : m16_api_Block l = some l := by
  rw [m16_api_Block, app_ok (by simp only [List.length_nil]; omega), bind1_some]; rfl
theorem concat_two {l1 l2 : List TBlock} (h : l1.length + l2.length ≤ 100000) : m14_api_Block [l1, l2] = some (l1 ++ l2) := by
  obtain ⟨m, hm⟩ : ∃ m, big = m + 3 := ⟨1180591620717411303421, rfl⟩
  have hl : (([l1, l2] : List (List TBlock)).length : Int) = 2 := rfl
  have i0 : idx [l1, l2] 0 = some l1 := rfl
  have i1 : idx [l1, l2] 1 = some l2 := rfl
  have e1 : i64 ((0 : Int) + 1) = some 1 := rfl
  have e2 : i64 ((1 : Int) + 1) = some 2 := rfl
  have tail : ∀ g : List TBlock, g = [] → m14_api_Block_K2 [l1, l2] g = some (l1 ++ l2) := by
    rintro g rfl
    rw [m14_api_Block_K2, hm, m14_api_Block_L1, m14_api_Block_L1B, hl, if_pos (by omega), i0, bind1_some, app_ok (by simp only [List.length_nil]; omega), bind1_some, e1, bind1_some, m14_api_Block_L1, m14_api_Block_L1B, hl, if_pos (by omega), i1, bind1_some, app_ok (by rw [List.nil_append]; omega), bind1_some, e2, bind1_some,
      m14_api_Block_L1, m14_api_Block_L1B, hl, if_neg (by omega)]
    rfl
  rw [m14_api_Block, hm, m14_api_Block_L2, m14_api_Block_L2B, hl, if_pos (by omega), i0, bind1_some, i64_ok (by omega) (by omega), bind1_some, if_neg (by omega), e1, bind1_some, m14_api_Block_L2, m14_api_Block_L2B, hl, if_pos (by omega), i1, bind1_some, i64_ok (by omega) (by omega), bind1_some, if_neg (by omega), e2, bind1_some,
    m14_api_Block_L2, m14_api_Block_L2B, hl, if_neg (by omega), m14_api_Block_K1, if_neg (by omega), m14_api_Block_K4, i64_ok (by omega) (by omega), bind1_some, i64_ok (by omega) (by omega), bind1_some]
  by_cases c : 0 < (0 : Int) + (l1.length : Int) + (l2.length : Int) - (0 - 0)
  · rw [if_pos c]
    unfold mk
    rw [if_pos ⟨by omega, by omega⟩, bind1_some, cut_ok (by omega) (by omega) (by omega), bind1_some]
    exact tail _ (by simp)
  · rw [if_neg c]
    exact tail _ rfl
/-! ### In order -/
def Srt (l : List TBlock) : Prop := l.Pairwise fun x y => x.At < y.At
theorem ok_lo {B : Nat} {e : Int} {l : List TBlock} (he : 0 ≤ e) (h : Okb B e l) : ∀ x ∈ l, e ≤ x.At := fun x hx => (ok_mem he h x hx).2.1
theorem ok_srt {B : Nat} : ∀ {e : Int} {l : List TBlock}, 0 ≤ e → Okb B e l → Srt l
  | _, [], _, _ => List.Pairwise.nil
  | e, x :: l, he, h => by
    have hz := sz_pos x
    have h1 := h.2.1
    refine List.pairwise_cons.2 ⟨fun y hy => ?_, ok_srt (by omega) h.2.2.2.2⟩
    have := ok_lo (by omega) h.2.2.2.2 y hy
    omega
/-- How many are ahead of a place. -/
def jn (a : Int) : List TBlock → Nat
  | [] => 0
  | x :: l => if x.At < a then jn a l + 1 else 0
theorem jn_le (a : Int) : ∀ l, jn a l ≤ l.length
  | [] => Nat.le_refl _
  | x :: l => by
    have := jn_le a l
    simp only [jn, List.length_cons]
    split <;> omega
theorem jn_take (a : Int) : ∀ (l : List TBlock), ∀ x ∈ l.take (jn a l), x.At < a
  | [], x, hx => by simp at hx
  | y :: l, x, hx => by
    by_cases c : y.At < a
    · have e : jn a (y :: l) = jn a l + 1 := by simp [jn, c]
      rw [e, List.take_succ_cons] at hx
      rcases List.mem_cons.1 hx with rfl | hx
      · exact c
      · exact jn_take a l x hx
    · have e : jn a (y :: l) = 0 := by simp [jn, c]
      rw [e] at hx; simp at hx
theorem jn_drop (a : Int) : ∀ {l : List TBlock}, Srt l → ∀ x ∈ l.drop (jn a l), a ≤ x.At
  | [], _, x, hx => by simp at hx
  | y :: l, h, x, hx => by
    have h' := List.pairwise_cons.1 h
    by_cases c : y.At < a
    · have e : jn a (y :: l) = jn a l + 1 := by simp [jn, c]
      rw [e, List.drop_succ_cons] at hx
      exact jn_drop a h'.2 x hx
    · have e : jn a (y :: l) = 0 := by simp [jn, c]
      rw [e, List.drop_zero] at hx
      rcases List.mem_cons.1 hx with rfl | hx
      · omega
      · have := h'.1 x hx; omega
theorem sort_ins {T : List TBlock} {y : TBlock} (hT : Srt T) (hl : T.length ≤ 2000) (hy : ∀ x ∈ T, x.At ≠ y.At) :
    xSortG (fun x y => (m19_buddy_Take_1 x y).getD 0) (T ++ [y]) = some (T.take (jn y.At T) ++ [y] ++ T.drop (jn y.At T)) := by
  rw [cf19]
  have hR : Srt (T.take (jn y.At T) ++ [y] ++ T.drop (jn y.At T)) := by
    unfold Srt at *
    rw [List.append_assoc, List.pairwise_append]
    refine ⟨hT.sublist (List.take_sublist _ _), ?_, fun a ha b hb => ?_⟩
    · rw [List.singleton_append, List.pairwise_cons]
      refine ⟨fun b hb => ?_, hT.sublist (List.drop_sublist _ _)⟩
      have h1 := jn_drop y.At hT b hb
      have h2 := hy b (List.mem_of_mem_drop hb)
      omega
    · have h1 := jn_take y.At T a ha
      rw [List.singleton_append] at hb
      rcases List.mem_cons.1 hb with rfl | hb
      · exact h1
      · have h2 := jn_drop y.At hT b hb; omega
  have hp : (T.take (jn y.At T) ++ [y] ++ T.drop (jn y.At T)).Perm (T ++ [y]) := by
    have e : T ++ [y] = T.take (jn y.At T) ++ (T.drop (jn y.At T) ++ [y]) := by rw [← List.append_assoc, List.take_append_drop]
    rw [e, List.append_assoc]
    exact (List.perm_append_comm (l₁ := [y])).append_left _
  have hD : dist cfB (T ++ [y]) := by
    unfold dist
    rw [List.pairwise_append]
    refine ⟨hT.imp fun h => ?_, List.pairwise_singleton _ _, fun a ha b hb => ?_⟩
    · left; rw [lt19]; exact decide_eq_true h
    · simp only [List.mem_singleton] at hb
      subst hb
      have := hy a ha
      rw [lt19, lt19]
      simp only [decide_eq_true_eq]
      omega
  unfold xSortG
  rw [if_pos ⟨by rw [List.length_append, List.length_singleton]; omega, hD⟩]
  congr 1
  refine List.Perm.eq_of_pairwise (le := fun x y => (!(ltOf cfB) y x) = true) ?_ ?_ ?_ ((List.mergeSort_perm _ _).trans hp.symm)
  · intro a b ha hb h1 h2
    simp only [Bool.not_eq_true'] at h1 h2
    exact dist_eq hD a b (List.mem_mergeSort.1 ha) (hp.mem_iff.1 hb) h2 h1
  · refine List.pairwise_mergeSort ?_ ?_ _
    · intro a b c h1 h2
      simp only [lt19, Bool.not_eq_true', decide_eq_false_iff_not] at h1 h2 ⊢
      omega
    · intro a b
      simp only [lt19]
      by_cases h : b.At < a.At
      · have : ¬ a.At < b.At := by omega
        simp [this]
      · simp [h]
  · refine hR.imp fun h => ?_
    rw [lt19]
    simp only [Bool.not_eq_true', decide_eq_false_iff_not]
    omega
/-- Free blocks begin where nothing is taken. -/
theorem fr_mem : ∀ (o : Nat) (l : List TBlock) (a : Int), ∀ y ∈ fr o l a, a ≤ y.At ∧ 0 ≤ y.Order ∧ (y.Order ≤ o) ∧ y.At + sz y ≤ a + (2 ^ o : Nat) ∧ ov l y.At y.Order.toNat = []
  | 0, l, a, y, hy => by
    unfold fr at hy
    split at hy
    · rename_i h
      simp only [List.mem_singleton] at hy
      subst hy
      exact ⟨Int.le_refl _, Int.le_refl _, Int.le_refl _, Int.le_refl _, h⟩
    · simp at hy
  | o + 1, l, a, y, hy => by
    have h2 : 2 ^ (o + 1) = 2 ^ o + 2 ^ o := by rw [Nat.pow_succ]; omega
    unfold fr at hy
    split at hy
    · rename_i h
      simp only [List.mem_singleton] at hy
      subst hy
      exact ⟨Int.le_refl _, by simp only; omega, Int.le_refl _, Int.le_refl _, h⟩
    · rename_i x t h
      split at hy
      · simp at hy
      · rcases List.mem_append.1 hy with hy | hy
        · have h3 := fr_mem o (x :: t) a y hy
          refine ⟨h3.1, h3.2.1, by omega, by omega, ?_⟩
          rw [← ov_ov (l := l) (a' := a) (o' := o + 1) (by omega) (by have := h3.2.2.2.1; unfold sz at this; omega), h]
          exact h3.2.2.2.2
        · have h3 := fr_mem o (x :: t) (a + (2 ^ o : Nat)) y hy
          refine ⟨by omega, h3.2.1, by omega, by omega, ?_⟩
          rw [← ov_ov (l := l) (a' := a) (o' := o + 1) (by omega) (by have := h3.2.2.2.1; unfold sz at this; omega), h]
          exact h3.2.2.2.2
theorem fr_new {o : Nat} {l : List TBlock} {a : Int} {y : TBlock} (hy : y ∈ fr o l a) : ∀ x ∈ l, x.At ≠ y.At := by
  intro x hx h
  have h1 := (fr_mem o l a y hy).2.2.2.2
  unfold ov at h1
  rw [List.filter_eq_nil_iff] at h1
  refine h1 x hx ?_
  have hz := sz_pos x
  have hp := pw_pos y.Order.toNat
  unfold ovb
  simp only [Bool.and_eq_true, decide_eq_true_eq]
  omega
end Go.Proofs.Ytanpiecpmmcaeaa
