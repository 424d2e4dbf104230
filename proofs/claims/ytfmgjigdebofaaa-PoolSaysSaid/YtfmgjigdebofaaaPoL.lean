/-
  Package pool: the models of Index, of what is kept and of the document's table.
  Conditions: none.
-/
import Derived.Test.YtfmgjigdebofaaaPoM
import Derived.Test.YtfmgjigdebofaaaJ
namespace Go.Proofs.Ytfmgjigdebofaaa
open Go.S
set_option linter.unusedVariables false
set_option linter.unusedSimpArgs false
/-! ### Index -/
def ixN (x : Int) : List Int → Nat
  | [] => 0
  | y :: l => if x = y then 0 else ixN x l + 1
def ixI (x : Int) (l : List Int) : Int := if ixN x l < l.length then (ixN x l : Int) else -1
theorem ixN_le (x : Int) : ∀ l, ixN x l ≤ l.length
  | [] => Nat.le_refl _
  | y :: l => by
    have := ixN_le x l
    simp only [ixN, List.length_cons]
    split <;> omega
theorem ixN_mem (x : Int) : ∀ l, ixN x l < l.length ↔ x ∈ l
  | [] => by simp [ixN]
  | y :: l => by
    have := ixN_mem x l
    simp only [ixN, List.length_cons, List.mem_cons]
    split
    · rename_i h; simp [h]
    · rename_i h; rw [← this]; constructor
      · intro h; right; omega
      · rintro (h1 | h1)
        · exact absurd h1 h
        · omega
theorem ixN_get (x : Int) : ∀ (l : List Int) (h : ixN x l < l.length), l[ixN x l] = x
  | [], h => by simp [ixN] at h
  | y :: l, h => by
    by_cases c : x = y
    · have : ixN x (y :: l) = 0 := by simp [ixN, c]
      simp only [this, List.getElem_cons_zero]
      exact c.symm
    · have e : ixN x (y :: l) = ixN x l + 1 := by simp [ixN, c]
      have h' : ixN x l < l.length := by rw [e] at h; simpa using h
      have := ixN_get x l h'
      simp only [e, List.getElem_cons_succ]
      exact this
theorem index_loop (l : List Int) (x : Int) (hl : l.length ≤ 1000000) : ∀ (r i : Nat), i + r = l.length → ∀ n, r < n →
    m121_slices_Index_int_L1 l x n (i : Int) = some (if ixN x (l.drop i) < (l.drop i).length then ((i + ixN x (l.drop i) : Nat) : Int) else -1) := by
  intro r
  induction r with
  | zero =>
    intro i hi n hn
    obtain ⟨n, rfl⟩ := dec n hn
    have h0 : l.drop i = [] := List.drop_eq_nil_of_le (by omega)
    rw [m121_slices_Index_int_L1, m121_slices_Index_int_L1B, if_neg (by omega), h0]
    rfl
  | succ r ih =>
    intro i hi n hn
    obtain ⟨n, rfl⟩ := dec n (by omega)
    have h1 : i < l.length := by omega
    rw [m121_slices_Index_int_L1, m121_slices_Index_int_L1B, if_pos (by omega), idx_ok h1, bind1_some, drop_cons h1]
    by_cases c : x = l[i]
    · rw [if_pos c]
      simp [ixN, c]; omega
    · rw [if_neg c, isucc i (by omega), bind1_some, ih (i + 1) (by omega) n (by omega)]
      simp only [ixN, if_neg c, List.length_cons]
      by_cases d : ixN x (l.drop (i + 1)) < (l.drop (i + 1)).length
      · rw [if_pos d, if_pos (by omega)]
        congr 2; omega
      · rw [if_neg d, if_neg (by omega)]
theorem index_eq (l : List Int) (x : Int) (hl : l.length ≤ 1000000) : m121_slices_Index_int l x = some (ixI x l) := by
  have := index_loop l x hl l.length 0 (by omega) big (by rw [big_eq]; omega)
  simp only [List.drop_zero, Nat.zero_add] at this
  exact this
theorem ixI_nonneg (x : Int) (l : List Int) : 0 ≤ ixI x l ↔ x ∈ l := by
  rw [← ixN_mem]
  unfold ixI
  split <;> omega
theorem ixI_mem {x : Int} {l : List Int} (h : x ∈ l) : ixI x l = (ixN x l : Int) := if_pos ((ixN_mem x l).2 h)
/-! ### What is kept -/
abbrev KL := List (Int × Int)
/-- The document's table, and what is kept: those of the table, by when they came. -/
structure Kp (K came : KL) (i : Int) : Prop where
  perm : came.Perm K
  srt : K.Pairwise fun a b => a.2 < b.2
  nd : (K.map Prod.fst).Nodup
  lo : ∀ p ∈ K, 0 ≤ p.2 ∧ p.2 < i
section
variable {K came : KL} {i x : Int}
theorem Kp.nil : Kp [] [] 0 := ⟨List.Perm.refl _, List.Pairwise.nil, List.Pairwise.nil, by simp⟩
theorem Kp.has (h : Kp K came i) : mhas came x = true ↔ x ∈ K.map Prod.fst := by
  unfold mhas
  rw [List.any_eq_true]
  simp only [decide_eq_true_eq, List.mem_map]
  constructor
  · rintro ⟨p, hp, rfl⟩; exact ⟨p, h.perm.mem_iff.1 hp, rfl⟩
  · rintro ⟨p, hp, rfl⟩; exact ⟨p, h.perm.mem_iff.2 hp, rfl⟩
theorem Kp.snoc (h : Kp K came i) (hi : 0 ≤ i) (hx : x ∉ K.map Prod.fst) {came' : KL} (hp : came'.Perm (K ++ [(x, i)])) : Kp (K ++ [(x, i)]) came' (i + 1) := by
  refine ⟨hp, ?_, ?_, ?_⟩
  · rw [List.pairwise_append]
    refine ⟨h.srt, List.pairwise_singleton _ _, fun a ha b hb => ?_⟩
    simp only [List.mem_singleton] at hb
    subst hb
    exact (h.lo a ha).2
  · rw [List.map_append, List.nodup_append]
    refine ⟨h.nd, by simp, fun a ha b hb => ?_⟩
    simp only [List.map_cons, List.map_nil, List.mem_singleton] at hb
    subst hb
    rintro rfl
    exact hx ha
  · intro p hp
    rcases List.mem_append.1 hp with hp | hp
    · have := h.lo p hp; omega
    · simp only [List.mem_singleton] at hp
      subst hp
      simp only
      omega
theorem Kp.add (h : Kp K came i) (hi : 0 ≤ i) (hx : x ∉ K.map Prod.fst) : Kp (K ++ [(x, i)]) (mset came x i) (i + 1) := by
  refine h.snoc hi hx ?_
  unfold mset
  rw [if_neg (fun hh => hx (h.has.1 hh))]
  exact h.perm.append_right _
theorem Kp.del (h : Kp K came i) (p0 : Int) : Kp (K.filter fun p => !decide (p.1 = p0)) (mdel came p0) i :=
  ⟨h.perm.filter _, h.srt.filter _, h.nd.sublist ((List.filter_sublist).map _), fun p hp => h.lo p (List.mem_filter.1 hp).1⟩
theorem touch_perm (v : Int) : ∀ {K : KL}, (K.map Prod.fst).Nodup → x ∈ K.map Prod.fst → (K.map fun p => if p.1 = x then (x, v) else p).Perm ((K.filter fun p => !decide (p.1 = x)) ++ [(x, v)])
  | [], _, h => by simp at h
  | q :: K, hn, h => by
    rw [List.map_cons, List.nodup_cons] at hn
    by_cases c : q.1 = x
    · have h1 : ∀ p ∈ K, p.1 ≠ x := fun p hp hpx => hn.1 (by rw [c, ← hpx]; exact List.mem_map.2 ⟨p, hp, rfl⟩)
      have h2 : (K.map fun p => if p.1 = x then (x, v) else p) = K := by
        conv => rhs; rw [← List.map_id K]
        exact List.map_congr_left fun p hp => if_neg (h1 p hp)
      have h3 : (K.filter fun p => !decide (p.1 = x)) = K := List.filter_eq_self.2 fun p hp => by simp [h1 p hp]
      rw [List.map_cons, if_pos c, h2, List.filter_cons_of_neg (by simp [c]), h3]
      exact (List.perm_append_singleton _ _).symm
    · have hx : x ∈ K.map Prod.fst := by
        rcases List.mem_cons.1 (show x ∈ q.1 :: K.map Prod.fst from h) with h | h
        · exact absurd h.symm c
        · exact h
      rw [List.map_cons, if_neg c, List.filter_cons_of_pos (by simp [c]), List.cons_append]
      exact (touch_perm v hn.2 hx).cons _
theorem filt_not (K : KL) (x : Int) : x ∉ (K.filter fun p => !decide (p.1 = x)).map Prod.fst := by
  intro h
  obtain ⟨p, hp, rfl⟩ := List.mem_map.1 h
  simp at hp
theorem Kp.touch (h : Kp K came i) (hi : 0 ≤ i) (hx : x ∈ K.map Prod.fst) : Kp ((K.filter fun p => !decide (p.1 = x)) ++ [(x, i)]) (mset came x i) (i + 1) := by
  refine (h.del x).snoc hi (filt_not K x) ?_
  unfold mset
  rw [if_pos (h.has.2 hx)]
  exact (h.perm.map _).trans (touch_perm i h.nd hx)
theorem filt_map : ∀ {K : KL}, (K.map Prod.fst).Nodup → ∀ (n : Nat) (hn : n < K.length), (K.filter fun p => !decide (p.1 = K[n].1)).map Prod.fst = (K.map Prod.fst).take n ++ (K.map Prod.fst).drop (n + 1)
  | [], _, n, hn => by simp at hn
  | q :: K, hd, 0, hn => by
    rw [List.map_cons, List.nodup_cons] at hd
    have h3 : (K.filter fun p => !decide (p.1 = q.1)) = K := List.filter_eq_self.2 fun p hp => by
      simp only [Bool.not_eq_true', decide_eq_false_iff_not]
      rintro hpx
      exact hd.1 (by rw [← hpx]; exact List.mem_map.2 ⟨p, hp, rfl⟩)
    simp only [List.getElem_cons_zero]
    rw [List.filter_cons_of_neg (by simp), h3]
    simp
  | q :: K, hd, n + 1, hn => by
    rw [List.map_cons, List.nodup_cons] at hd
    have hn' : n < K.length := by simpa using hn
    have hne : q.1 ≠ K[n].1 := fun h => hd.1 (by rw [h]; exact List.mem_map.2 ⟨_, List.getElem_mem hn', rfl⟩)
    simp only [List.getElem_cons_succ]
    rw [List.filter_cons_of_pos (by simp [hne]), List.map_cons, filt_map hd.2 n hn']
    simp
end
end Go.Proofs.Ytfmgjigdebofaaa
