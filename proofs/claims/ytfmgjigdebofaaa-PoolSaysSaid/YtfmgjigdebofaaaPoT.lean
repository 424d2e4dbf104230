/-
  Package pool: Fifo, Lru and Best are the document's.
  Conditions: none.
-/
import Derived.Test.YtfmgjigdebofaaaPoS
namespace Go.Proofs.Ytfmgjigdebofaaa
open Go.S
set_option linter.unusedVariables false
set_option linter.unusedSimpArgs false
theorem xDel_ok {l : List Int} {q : Nat} (h : q < l.length) (hl : l.length ≤ 1000000) : xDel l (q : Int) ((q + 1 : Nat) : Int) = some (l.take q ++ l.drop (q + 1)) := by
  unfold xDel
  rw [if_pos ⟨by omega, by omega, by omega, by omega⟩]
  rfl
theorem dT {x : Int} {l : List Int} (h : x ∈ l) : decide (0 ≤ ixI x l) = true := decide_eq_true ((ixI_nonneg x l).2 h)
theorem dF {x : Int} {l : List Int} (h : x ∉ l) : decide (0 ≤ ixI x l) = false := decide_eq_false fun hh => h ((ixI_nonneg x l).1 hh)
theorem first_min {K : KL} (hK : K.Pairwise fun a b => a.2 < b.2) (h0 : 0 < K.length) {rule : Int} (hr : rule ≠ 2) (refs : List Int) (i : Nat) : ∀ z ∈ K, z = K[0] ∨ lt2 (k0 rule refs i K[0].1) K[0].2 (k0 rule refs i z.1) z.2 := by
  cases K with
  | nil => simp at h0
  | cons a K =>
    intro z hz
    rcases List.mem_cons.1 hz with rfl | hz
    · exact Or.inl rfl
    · right; right
      simp only [List.getElem_cons_zero]
      exact ⟨by unfold k0; rw [if_neg hr, if_neg hr], (List.pairwise_cons.1 hK).1 z hz⟩
section
variable {refs : List Int} {s : Nat}
theorem check_ok (hs : 1 ≤ s ∧ s ≤ 50) (hl : refs.length ≤ 2000) : m64_pool_Check s refs = some 0 := by
  rw [m64_pool_Check, if_neg (by omega), if_neg (by omega), if_neg (by omega)]
theorem fifo_eq (hs : 1 ≤ s ∧ s ≤ 50) (hl : refs.length ≤ 2000) : ∃ h k, m65_pool_Fifo s refs = some (h, k, 0) ∧ m70_quirref_Pool 0 s refs = some (h, k) ∧ h.length ≤ 2000 ∧ k.length ≤ 50 := by
  rw [m65_pool_Fifo, check_ok hs hl, bind1_some, if_neg (by simp), m65_pool_Fifo_K1, m70_quirref_Pool]
  refine sim (L := m65_pool_Fifo_L1 refs s) hs hl ?_ ?_ ?_ ?_ refs.length 0 (by omega) [] [] [] rfl (by simp) Kp.nil big big (lt_big (by omega)) (lt_big (by omega))
  · intro n hits kept
    rw [m65_pool_Fifo_L1, m65_pool_Fifo_L1B, if_neg (by omega)]; rfl
  · intro n hits kept i hi h1 h2 hx
    rw [m65_pool_Fifo_L1, m65_pool_Fifo_L1B, if_pos (by omega), idx_ok hi, bind1_some, index_eq _ _ (by omega), bind1_some, dT hx, app_ok (by simp only [List.length_singleton]; omega), bind1_some, if_pos ((ixI_nonneg _ _).2 hx), m65_pool_Fifo_K7, m65_pool_Fifo_K4, isucc i (by omega), bind1_some, if_neg (by simp)]
  · intro n hits kept i hi h1 h2 hx h3
    rw [m65_pool_Fifo_L1, m65_pool_Fifo_L1B, if_pos (by omega), idx_ok hi, bind1_some, index_eq _ _ (by omega), bind1_some, dF hx, app_ok (by simp only [List.length_singleton]; omega), bind1_some, if_neg (fun h => hx ((ixI_nonneg _ _).1 h)), m65_pool_Fifo_K5, if_neg (by omega),
      app_ok (by simp only [List.length_singleton]; omega), bind1_some, m65_pool_Fifo_K4, isucc i (by omega), bind1_some]
  · intro n hits K i hi h1 hsr hnd h3 hx
    have hkl : (K.map Prod.fst).length = K.length := List.length_map ..
    refine ⟨0, by omega, first_min hsr (by omega) (by simp) refs i, ?_⟩
    rw [m65_pool_Fifo_L1, m65_pool_Fifo_L1B, if_pos (by omega), idx_ok hi, bind1_some, index_eq _ _ (by omega), bind1_some, dF hx, app_ok (by simp only [List.length_singleton]; omega), bind1_some, if_neg (fun h => hx ((ixI_nonneg _ _).1 h)), m65_pool_Fifo_K5, if_pos (by omega),
      m65_pool_Fifo_K6, i64_ok (by omega) (by omega), bind1_some, show xDel (K.map Prod.fst) 0 (0 + 1) = _ from xDel_ok (q := 0) (by omega) (by omega), bind1_some, app_ok (by rw [List.length_append, List.length_take, List.length_drop, List.length_singleton]; omega), bind1_some, m65_pool_Fifo_K4, isucc i (by omega), bind1_some]
theorem lru_eq (hs : 1 ≤ s ∧ s ≤ 50) (hl : refs.length ≤ 2000) : ∃ h k, m66_pool_Lru s refs = some (h, k, 0) ∧ m70_quirref_Pool 1 s refs = some (h, k) ∧ h.length ≤ 2000 ∧ k.length ≤ 50 := by
  rw [m66_pool_Lru, check_ok hs hl, bind1_some, if_neg (by simp), m66_pool_Lru_K1, m70_quirref_Pool]
  refine sim (L := m66_pool_Lru_L1 refs s) hs hl ?_ ?_ ?_ ?_ refs.length 0 (by omega) [] [] [] rfl (by simp) Kp.nil big big (lt_big (by omega)) (lt_big (by omega))
  · intro n hits kept
    rw [m66_pool_Lru_L1, m66_pool_Lru_L1B, if_neg (by omega)]; rfl
  · intro n hits kept i hi h1 h2 hx
    have hq := (ixN_mem refs[i] kept).2 hx
    rw [m66_pool_Lru_L1, m66_pool_Lru_L1B, if_pos (by omega), idx_ok hi, bind1_some, index_eq _ _ (by omega), bind1_some, dT hx, app_ok (by simp only [List.length_singleton]; omega), bind1_some, if_pos ((ixI_nonneg _ _).2 hx), bind1_some, ixI_mem hx, isucc _ (by omega), bind1_some, xDel_ok hq (by omega), bind1_some,
      app_ok (by rw [List.length_append, List.length_take, List.length_drop, List.length_singleton]; omega), bind1_some, m66_pool_Lru_K7, m66_pool_Lru_K4, isucc i (by omega), bind1_some, if_pos rfl]
  · intro n hits kept i hi h1 h2 hx h3
    rw [m66_pool_Lru_L1, m66_pool_Lru_L1B, if_pos (by omega), idx_ok hi, bind1_some, index_eq _ _ (by omega), bind1_some, dF hx, app_ok (by simp only [List.length_singleton]; omega), bind1_some, if_neg (fun h => hx ((ixI_nonneg _ _).1 h)), m66_pool_Lru_K5, if_neg (by omega),
      app_ok (by simp only [List.length_singleton]; omega), bind1_some, m66_pool_Lru_K4, isucc i (by omega), bind1_some]
  · intro n hits K i hi h1 hsr hnd h3 hx
    have hkl : (K.map Prod.fst).length = K.length := List.length_map ..
    refine ⟨0, by omega, first_min hsr (by omega) (by simp) refs i, ?_⟩
    rw [m66_pool_Lru_L1, m66_pool_Lru_L1B, if_pos (by omega), idx_ok hi, bind1_some, index_eq _ _ (by omega), bind1_some, dF hx, app_ok (by simp only [List.length_singleton]; omega), bind1_some, if_neg (fun h => hx ((ixI_nonneg _ _).1 h)), m66_pool_Lru_K5, if_pos (by omega),
      m66_pool_Lru_K6, i64_ok (by omega) (by omega), bind1_some, show xDel (K.map Prod.fst) 0 (0 + 1) = _ from xDel_ok (q := 0) (by omega) (by omega), bind1_some, app_ok (by rw [List.length_append, List.length_take, List.length_drop, List.length_singleton]; omega), bind1_some, m66_pool_Lru_K4, isucc i (by omega), bind1_some]
/-! ### Best -/
/-- When a page is asked for again. -/
abbrev nx (refs : List Int) (i : Nat) (p : Int) : Int := (i : Int) - k0 2 refs i p
theorem next_eq {ρ : Type} (hl : refs.length ≤ 2000) {i : Nat} (hi : i ≤ refs.length) (y : Int) (F : Int → Option ρ) :
    (bind1 (cut refs (i : Int) refs.length) fun l => bind1 (m121_slices_Index_int l y) fun x => if 0 ≤ x then bind1 (i64 ((i : Int) + x)) fun v => F v else F (refs.length : Int)) = F (nx refs i y) := by
  have hle := ixN_le y (refs.drop i)
  rw [List.length_drop] at hle
  rw [cut_drop refs i hi, bind1_some, index_eq _ _ (by rw [List.length_drop]; omega), bind1_some]
  unfold nx k0
  rw [if_pos rfl]
  by_cases hp : y ∈ refs.drop i
  · rw [if_pos ((ixI_nonneg _ _).2 hp), if_pos hp, ixI_mem hp, i64_ok (by omega) (by omega), bind1_some]
    congr 1; omega
  · rw [if_neg (fun h => hp ((ixI_nonneg _ _).1 h)), if_neg hp]
    congr 1; omega
theorem far {i : Nat} (hl : refs.length ≤ 2000) (hi : i ≤ refs.length) {kept : List Int} (hk : kept.length ≤ 1000000) {x : Int} {go1 : List Bool → List Int → Int → Option (List Bool × List Int × Int)} {hs : List Bool} : ∀ (d k out : Nat), k + d = kept.length → ∀ (ho : out < kept.length), out ≤ k →
    (∀ j (hj : j < kept.length), j < k → nx refs i kept[j] < nx refs i kept[out] ∨ (nx refs i kept[j] = nx refs i kept[out] ∧ out ≤ j)) → ∀ n, d < n →
    ∃ (q : Nat) (hq : q < kept.length), (∀ j (hj : j < kept.length), nx refs i kept[j] < nx refs i kept[q] ∨ (nx refs i kept[j] = nx refs i kept[q] ∧ q ≤ j)) ∧ m67_pool_Best_L2 kept refs i x go1 hs n out k = m67_pool_Best_K6 kept x i go1 hs q := by
  intro d
  induction d with
  | zero =>
    intro k out hk' ho hok h n hn
    obtain ⟨n, rfl⟩ := dec n hn
    refine ⟨out, ho, fun j hj => h j hj (by omega), ?_⟩
    rw [m67_pool_Best_L2, m67_pool_Best_L2B, if_neg (by omega)]
  | succ d ih =>
    intro k out hk' ho hok h n hn
    obtain ⟨n, rfl⟩ := dec n (by omega)
    have hkk : k < kept.length := by omega
    have e : m67_pool_Best_L2 kept refs i x go1 hs (n + 1) out k = if nx refs i kept[out] < nx refs i kept[k] then m67_pool_Best_L2 kept refs i x go1 hs n k ((k + 1 : Nat) : Int) else m67_pool_Best_L2 kept refs i x go1 hs n out ((k + 1 : Nat) : Int) := by
      rw [m67_pool_Best_L2, m67_pool_Best_L2B, if_pos (by omega), idx_ok hkk, bind1_some, idx_ok ho, bind1_some]
      rw [next_eq hl hi kept[k] (fun v => m67_pool_Best_K7 refs i kept[out] k (m67_pool_Best_L2 kept refs i x go1 hs n) out v), m67_pool_Best_K7]
      rw [next_eq hl hi kept[out] (fun v => m67_pool_Best_K8 (nx refs i kept[k]) k (m67_pool_Best_L2 kept refs i x go1 hs n) out v), m67_pool_Best_K8]
      rw [isucc k (by omega), bind1_some, bind1_some]
    rw [e]
    by_cases c : nx refs i kept[out] < nx refs i kept[k]
    · rw [if_pos c]
      refine ih (k + 1) k (by omega) hkk (by omega) (fun j hj hjk => ?_) n (by omega)
      by_cases hjk' : j = k
      · subst hjk'; right; exact ⟨rfl, Nat.le_refl _⟩
      · left
        rcases h j hj (by omega) with h1 | h1
        · exact Int.lt_trans h1 c
        · rw [h1.1]; exact c
    · rw [if_neg c]
      refine ih (k + 1) out (by omega) ho (by omega) (fun j hj hjk => ?_) n (by omega)
      by_cases hjk' : j = k
      · subst hjk'
        by_cases h1 : nx refs i kept[j] = nx refs i kept[out]
        · right; exact ⟨h1, hok⟩
        · left; omega
      · exact h j hj (by omega)
theorem best_eq (hs : 1 ≤ s ∧ s ≤ 50) (hl : refs.length ≤ 2000) : ∃ h k, m67_pool_Best s refs = some (h, k, 0) ∧ m70_quirref_Pool 2 s refs = some (h, k) ∧ h.length ≤ 2000 ∧ k.length ≤ 50 := by
  rw [m67_pool_Best, check_ok hs hl, bind1_some, if_neg (by simp), m67_pool_Best_K1, m70_quirref_Pool]
  refine sim (L := m67_pool_Best_L1 refs s) hs hl ?_ ?_ ?_ ?_ refs.length 0 (by omega) [] [] [] rfl (by simp) Kp.nil big big (lt_big (by omega)) (lt_big (by omega))
  · intro n hits kept
    rw [m67_pool_Best_L1, m67_pool_Best_L1B, if_neg (by omega)]; rfl
  · intro n hits kept i hi h1 h2 hx
    rw [m67_pool_Best_L1, m67_pool_Best_L1B, if_pos (by omega), idx_ok hi, bind1_some, index_eq _ _ (by omega), bind1_some, dT hx, app_ok (by simp only [List.length_singleton]; omega), bind1_some, if_pos ((ixI_nonneg _ _).2 hx), m67_pool_Best_K9, isucc i (by omega), bind1_some, if_neg (by simp)]
  · intro n hits kept i hi h1 h2 hx h3
    rw [m67_pool_Best_L1, m67_pool_Best_L1B, if_pos (by omega), idx_ok hi, bind1_some, index_eq _ _ (by omega), bind1_some, dF hx, app_ok (by simp only [List.length_singleton]; omega), bind1_some, if_neg (fun h => hx ((ixI_nonneg _ _).1 h)), m67_pool_Best_K4, if_neg (by omega),
      app_ok (by simp only [List.length_singleton]; omega), bind1_some, isucc i (by omega), bind1_some]
  · intro n hits K i hi h1 hsr hnd h3 hx
    have hkl : (K.map Prod.fst).length = K.length := List.length_map ..
    obtain ⟨q, hq, hmin, he⟩ := far (i := i) (x := refs[i]) (go1 := m67_pool_Best_L1 refs s n) (hs := hits ++ [false]) hl (by omega) (kept := K.map Prod.fst) (by omega) (K.map Prod.fst).length 0 0 (by omega) (by omega) (Nat.le_refl _) (fun j hj h => by omega) big (lt_big (by omega))
    have hqK : q < K.length := by omega
    refine ⟨q, hqK, fun z hz => ?_, ?_⟩
    · obtain ⟨j, hj, rfl⟩ := List.getElem_of_mem hz
      have := hmin j (by omega)
      rw [List.getElem_map, List.getElem_map] at this
      unfold nx at this
      by_cases hjq : j = q
      · subst hjq; exact Or.inl rfl
      · right
        rcases this with h4 | h4
        · left; omega
        · right
          exact ⟨by omega, List.pairwise_iff_getElem.1 hsr q j hqK hj (by omega)⟩
    · rw [m67_pool_Best_L1, m67_pool_Best_L1B, if_pos (by omega), idx_ok hi, bind1_some, index_eq _ _ (by omega), bind1_some, dF hx, app_ok (by simp only [List.length_singleton]; omega), bind1_some, if_neg (fun h => hx ((ixI_nonneg _ _).1 h)), m67_pool_Best_K4, if_pos (by omega)]
      rw [show ((0 : Int)) = ((0 : Nat) : Int) from rfl, he, m67_pool_Best_K6, m67_pool_Best_K5, isucc q (by omega), bind1_some, xDel_ok hq (by omega), bind1_some, app_ok (by rw [List.length_append, List.length_take, List.length_drop, List.length_singleton]; omega), bind1_some, isucc i (by omega), bind1_some]
end
end Go.Proofs.Ytfmgjigdebofaaa
