/-
  Package leaf: a page read.
  Conditions: none.
-/
import Derived.Test.YtfmgjigdebofaaaLfP
namespace Go.Proofs.Ytfmgjigdebofaaa
open Go.S
set_option linter.unusedVariables false
set_option linter.unusedSimpArgs false

theorem getNat' (s : List UInt8) (hl : s.length ≤ 9223372036854775807) : ∃ (m k : Nat) (e : Int), m27_code_GetNat s = some ((m : Int), (k : Int), e) ∧ m28_quirref_GetNat s = some ((m : Int), (k : Int), e) ∧ m < 18446744073709551616 ∧ k ≤ s.length ∧ (e = 0 → enc 10 m = s.take k) := by
  obtain ⟨a, k, e, h1, h2, h3⟩ := getNat s hl
  obtain ⟨m, rfl⟩ := Int.eq_ofNat_of_zero_le h3.n0
  obtain ⟨j, rfl⟩ := Int.eq_ofNat_of_zero_le h3.k0
  exact ⟨m, j, e, h1, h2, by have := h3.n1; omega, by have := h3.k1; omega, fun h => (h3.canon h).1⟩
def slotOf (m k : Nat) (s : List UInt8) : TSlot := ⟨decide (0 < m), (s.drop k).take (m - 1)⟩
theorem cut_drop {α : Type} (l : List α) (i : Nat) (h : i ≤ l.length) : cut l (i : Int) (l.length : Int) = some (l.drop i) := by
  rw [cut_ok (by omega) (by omega) (by omega)]
  simp
theorem cut_mid {α : Type} (l : List α) (i d : Nat) (h : i + d ≤ l.length) : cut l (i : Int) ((i + d : Nat) : Int) = some ((l.drop i).take d) := by
  rw [cut_ok (by omega) (by omega) (by omega)]
  rw [Int.toNat_natCast, Int.toNat_natCast, List.drop_take, show i + d - i = d by omega]
theorem refStep (a : List UInt8) (x2 : Nat) (hx : x2 ≤ 40) (hl : a.length ≤ 4611686018427387904) (p c : Nat) (hp : p ≤ a.length) (hc : c < x2) (acc : List TSlot) (ha : acc.length ≤ 40) (n : Nat) (m k : Nat) (e : Int) (hm : m28_quirref_GetNat (a.drop p) = some ((m : Int), (k : Int), e)) (hk : k ≤ (a.drop p).length) :
    m88_quirref_LeafRead_L1 (x2 : Int) a (n + 1) (p : Int) (c : Int) acc = if e ≠ 0 ∨ 1000 < m ∨ (a.drop p).length < k + (m - 1) then some ((⟨[]⟩ : TLeaf), false) else m88_quirref_LeafRead_L1 (x2 : Int) a n ((p + (k + (m - 1)) : Nat) : Int) ((c + 1 : Nat) : Int) (acc ++ [slotOf m k (a.drop p)]) := by
  rw [List.length_drop] at hk ⊢
  rw [m88_quirref_LeafRead_L1, m88_quirref_LeafRead_L1B, if_pos (show (c : Int) < (x2 : Int) by omega), cut_drop a p hp, bind1_some, hm, bind3_some]
  by_cases h1 : e ≠ 0
  · rw [if_pos h1, if_pos (Or.inl h1)]
  by_cases h2 : 1000 < m
  · rw [if_neg h1, if_pos (by omega), if_pos (Or.inr (Or.inl h2))]
  have hw : IntKind.wrap .i64 (m : Int) = (m : Int) := wrapI64 (by omega) (by omega)
  have hwc : IntKind.wrap .u64 ((c : Int) + 1) = ((c + 1 : Nat) : Int) := by rw [wrapU64]; omega
  rw [if_neg h1, if_neg (show ¬ (1000 : Int) < (m : Int) by omega), m88_quirref_LeafRead_K3, show (p : Int) + (k : Int) = ((p + k : Nat) : Int) by omega, i64_ok (by omega) (by omega), bind1_some, hw]
  have hd : decide ((m : Int) ≠ 0) = decide (0 < m) := by
    rw [decide_eq_decide]; omega
  by_cases h3 : 1 < m
  · rw [if_pos (by omega), i64_ok (by omega) (by omega), bind1_some, i64_ok (by omega) (by omega), bind1_some]
    by_cases h4 : a.length - p < k + (m - 1)
    · rw [if_pos (by omega), if_pos (Or.inr (Or.inr h4))]
    · rw [if_neg (by omega), if_neg (by omega), m88_quirref_LeafRead_K5, hw, i64_ok (by omega) (by omega), bind1_some, i64_ok (by omega) (by omega), bind1_some,
        show (((p + k : Nat) : Int) + (m : Int) - 1) = ((p + k + (m - 1) : Nat) : Int) by omega, cut_mid a (p + k) (m - 1) (by omega), bind1_some, i64_ok (by omega) (by omega), bind1_some, i64_ok (by omega) (by omega), bind1_some, m88_quirref_LeafRead_K4, app_ok (by simp; omega), bind1_some, hwc, hd]
      rw [show (((p + k : Nat) : Int) + ((m : Int) - 1)) = ((p + (k + (m - 1)) : Nat) : Int) by omega]
      simp only [slotOf, List.drop_drop]
  · rw [if_neg (by omega), if_neg (by omega), m88_quirref_LeafRead_K4, app_ok (by simp; omega), bind1_some, hwc, hd, show m - 1 = 0 by omega]
    simp only [slotOf, show m - 1 = 0 by omega, List.take_zero, Nat.add_zero]
theorem ownStep (s : List UInt8) (x2 : Nat) (hx : x2 ≤ 40) (hl : s.length ≤ 4611686018427387904) (c : Nat) (hc : c < x2) (acc : List TSlot) (ha : acc.length ≤ 40) (n : Nat) (m k : Nat) (e : Int) (hm : m27_code_GetNat s = some ((m : Int), (k : Int), e)) (hm2 : m < 18446744073709551616) (hk : k ≤ s.length) :
    m87_leaf_Read_L1 (x2 : Int) (n + 1) s (c : Int) acc = if e ≠ 0 ∨ 513 < m ∨ s.length < k + (m - 1) then some ((⟨[]⟩ : TLeaf), 4) else m87_leaf_Read_L1 (x2 : Int) n (s.drop (k + (m - 1))) ((c + 1 : Nat) : Int) (acc ++ [slotOf m k s]) := by
  rw [m87_leaf_Read_L1, m87_leaf_Read_L1B, if_pos (show (c : Int) < (x2 : Int) by omega), hm, bind3_some]
  by_cases h1 : e ≠ 0
  · rw [if_pos h1, if_pos (Or.inl h1), m87_leaf_Read_K5, if_pos rfl]
  by_cases h2 : 513 < m
  · rw [if_neg h1, if_pos (by omega), if_pos (Or.inr (Or.inl h2)), m87_leaf_Read_K5, if_pos rfl]
  have hwc : IntKind.wrap .u64 ((c : Int) + 1) = ((c + 1 : Nat) : Int) := by rw [wrapU64]; omega
  rw [if_neg h1, if_neg (show ¬ (513 : Int) < (m : Int) by omega), m87_leaf_Read_K5, if_neg (by simp), i64_ok (by omega) (by omega), bind1_some]
  have hK4 : s.length ≥ k + (m - 1) → m87_leaf_Read_K4 s (k : Int) (m : Int) acc (m87_leaf_Read_L1 (x2 : Int) n) (c : Int) = m87_leaf_Read_L1 (x2 : Int) n (s.drop (k + (m - 1))) ((c + 1 : Nat) : Int) (acc ++ [slotOf m k s]) := by
    intro hge
    rw [m87_leaf_Read_K4, cut_drop s k hk, bind1_some]
    by_cases h3 : 0 < m
    · have hw : IntKind.wrap .u64 ((m : Int) - 1) = ((m - 1 : Nat) : Int) := by rw [wrapU64]; omega
      have hd : decide ((0 : Int) < (m : Int)) = true := by simp; omega
      have hd2 : decide (0 < m) = true := by simp; omega
      have hle : m - 1 ≤ (s.drop k).length := by rw [List.length_drop]; omega
      have hc0 := cut_mid (s.drop k) 0 (m - 1) (by omega)
      rw [Nat.zero_add, List.drop_zero] at hc0
      rw [if_pos hd, hw, show (0 : Int) = ((0 : Nat) : Int) from rfl, hc0, bind1_some, cut_drop _ _ hle, bind1_some, app_ok (by simp; omega), bind1_some, m87_leaf_Read_K3, hwc, List.drop_drop]
      simp only [slotOf, hd2, show ((0 : Nat) : Int) = 0 from rfl, hd]
    · have hd : decide ((0 : Int) < (m : Int)) = false := by simp; omega
      have hd2 : decide (0 < m) = false := by simp; omega
      rw [hd, if_neg (by simp), app_ok (by simp; omega), bind1_some, m87_leaf_Read_K3, hwc, show m - 1 = 0 by omega]
      simp only [slotOf, hd2, show m - 1 = 0 by omega, List.take_zero, Nat.add_zero]
  by_cases h3 : 0 < m
  · have hw : IntKind.wrap .u64 ((m : Int) - 1) = ((m - 1 : Nat) : Int) := by rw [wrapU64]; omega
    have hw2 : IntKind.wrap .u64 ((s.length : Int) - (k : Int)) = ((s.length - k : Nat) : Int) := by rw [wrapU64]; omega
    rw [if_pos (by omega), hw, hw2]
    by_cases h4 : s.length < k + (m - 1)
    · rw [if_pos (by omega), m87_leaf_Read_K6, if_pos rfl, if_pos (Or.inr (Or.inr h4))]
    · rw [if_neg (by omega), m87_leaf_Read_K6, if_neg (by simp), hK4 (by omega), if_neg (by omega)]
  · rw [if_neg (by omega), m87_leaf_Read_K6, if_neg (by simp), hK4 (by omega), if_neg (by omega)]
def Thin (l : List TSlot) : Prop := ∀ x ∈ l, x.Text.length ≤ 1000
theorem Thin.sz {l : List TSlot} (h : Thin l) : Sz l := fun x hx => Nat.le_trans (h x hx) (by decide)
theorem slotOf_thin {m k : Nat} {s : List UInt8} (h : m ≤ 1000) : (slotOf m k s).Text.length ≤ 1000 := by
  simp only [slotOf, List.length_take]; omega
theorem Thin.more {l : List TSlot} (h : Thin l) {x : TSlot} (hx : x.Text.length ≤ 1000) : Thin (l ++ [x]) := by
  intro y hy
  rcases List.mem_append.1 hy with h1 | h1
  · exact h y h1
  · rw [List.mem_singleton] at h1; subst h1; exact hx
theorem refEnd (a : List UInt8) (acc : List TSlot) (ha : acc.length ≤ 40) (ht : Thin acc) : m88_quirref_LeafRead_K2 a acc = if err acc = 0 ∧ leafT acc = a then some (⟨acc⟩, true) else some (⟨[]⟩, false) := by
  rw [m88_quirref_LeafRead_K2, refCheck_eq acc ht.sz, bind1_some, refText_eq acc ht.sz (by omega), bind1_some]
  by_cases h1 : err acc = 0
  · by_cases h2 : leafT acc = a
    · rw [if_neg (by simp [h1]), if_neg (by simp [h2]), if_pos ⟨h1, h2⟩]
    · rw [if_neg (by simp [h1]), if_pos h2, if_neg (by simp [h2])]
  · rw [if_pos h1, if_neg (by simp [h1])]
theorem refTotal (a : List UInt8) (x2 : Nat) (hx : x2 ≤ 40) (hl : a.length ≤ 4611686018427387904) : ∀ (r c p : Nat) (acc : List TSlot), c + r = x2 → acc.length = c → p ≤ a.length → Thin acc → ∀ n, r < n →
    ∃ l b, m88_quirref_LeafRead_L1 (x2 : Int) a n (p : Int) (c : Int) acc = some ((⟨l⟩ : TLeaf), b) ∧ (b = false → l = []) ∧ (b = true → (∃ t, l = acc ++ t) ∧ err l = 0 ∧ leafT l = a) := by
  intro r
  induction r with
  | zero =>
    intro c p acc hc ha hp ht n hn
    obtain ⟨n, rfl⟩ := dec n hn
    rw [m88_quirref_LeafRead_L1, m88_quirref_LeafRead_L1B, if_neg (show ¬ (c : Int) < (x2 : Int) by omega), refEnd a acc (by omega) ht]
    split
    · rename_i h; exact ⟨_, _, rfl, by simp, fun _ => ⟨⟨[], by simp⟩, h⟩⟩
    · exact ⟨_, _, rfl, by simp, by simp⟩
  | succ r ih =>
    intro c p acc hc ha hp ht n hn
    obtain ⟨n, rfl⟩ := dec n (by omega)
    obtain ⟨m, k, e, _, h2, h3, h4, _⟩ := getNat' (a.drop p) (by rw [List.length_drop]; omega)
    rw [refStep a x2 hx hl p c hp (by omega) acc (by omega) n m k e h2 h4]
    split
    · exact ⟨_, _, rfl, by simp, by simp⟩
    · rename_i h
      simp only [not_or, Nat.not_lt] at h
      rw [List.length_drop] at h h4
      obtain ⟨l, b, g1, g2, g3⟩ := ih (c + 1) (p + (k + (m - 1))) (acc ++ [slotOf m k (a.drop p)]) (by omega) (by simp; omega) (by omega) (ht.more (slotOf_thin (by omega))) n (by omega)
      refine ⟨l, b, g1, g2, fun hb => ?_⟩
      obtain ⟨⟨t, ht'⟩, h5⟩ := g3 hb
      exact ⟨⟨slotOf m k (a.drop p) :: t, by rw [ht']; simp⟩, h5⟩
theorem slotT_of {m k : Nat} {s : List UInt8} (h : enc 10 m = s.take k) (hk : k + (m - 1) ≤ s.length) : slotT (slotOf m k s) = s.take (k + (m - 1)) := by
  by_cases h0 : 0 < m
  · have e1 : (slotOf m k s).Used = true := by simp [slotOf]; omega
    have e2 : (slotOf m k s).Text.length + 1 = m := by simp [slotOf]; omega
    unfold slotT
    rw [if_pos e1, e2, h, List.take_add]
    rfl
  · have e0 : m = 0 := by omega
    subst e0
    have e1 : ¬ (slotOf 0 k s).Used = true := by simp [slotOf]
    unfold slotT
    rw [if_neg e1, Nat.zero_sub, Nat.add_zero, ← h]
    rfl
theorem agree (a : List UInt8) (x2 : Nat) (hx : x2 ≤ 40) (hl : a.length ≤ 4611686018427387904) : ∀ (r c p : Nat) (acc : List TSlot), c + r = x2 → acc.length = c → p ≤ a.length → Thin acc → a.take p = enc 10 x2 ++ body acc → ∀ n n', r < n → r < n' →
    ∃ l b, m88_quirref_LeafRead_L1 (x2 : Int) a n (p : Int) (c : Int) acc = some ((⟨l⟩ : TLeaf), b) ∧ m87_leaf_Read_L1 (x2 : Int) n' (a.drop p) (c : Int) acc = some ((⟨l⟩ : TLeaf), if b = true then 0 else 4) ∧ l.length ≤ 40 := by
  intro r
  induction r with
  | zero =>
    intro c p acc hc ha hp ht hpre n n' hn hn'
    obtain ⟨n, rfl⟩ := dec n hn
    obtain ⟨n', rfl⟩ := dec n' hn'
    rw [m88_quirref_LeafRead_L1, m88_quirref_LeafRead_L1B, if_neg (show ¬ (c : Int) < (x2 : Int) by omega), refEnd a acc (by omega) ht, m87_leaf_Read_L1, m87_leaf_Read_L1B, if_neg (show ¬ (c : Int) < (x2 : Int) by omega), m87_leaf_Read_K2, check_eq acc ht.sz, bind1_some]
    have hleaf : leafT acc = a.take p := by rw [hpre, leafT, ha, show c = x2 by omega]
    have hiff : leafT acc = a ↔ a.drop p = [] := by
      rw [hleaf]
      constructor
      · intro h
        have := List.take_append_drop p a
        rw [h] at this
        simpa using this
      · intro h
        have := List.take_append_drop p a
        rwa [h, List.append_nil] at this
    by_cases h1 : a.drop p = []
    · by_cases h2 : err acc = 0
      · rw [if_pos ⟨h2, hiff.2 h1⟩, if_neg (show ¬ a.drop p ≠ [] by simpa using h1), if_neg (show ¬ err acc ≠ 0 by simpa using h2)]
        exact ⟨_, _, rfl, rfl, by omega⟩
      · rw [if_neg (show ¬ (err acc = 0 ∧ leafT acc = a) from fun h => h2 h.1), if_neg (show ¬ a.drop p ≠ [] by simpa using h1), if_pos h2]
        exact ⟨_, _, rfl, rfl, by simp⟩
    · rw [if_neg (show ¬ (err acc = 0 ∧ leafT acc = a) from fun h => h1 (hiff.1 h.2)), if_pos h1]
      exact ⟨_, _, rfl, rfl, by simp⟩
  | succ r ih =>
    intro c p acc hc ha hp ht hpre n n' hn hn'
    obtain ⟨n, rfl⟩ := dec n (by omega)
    obtain ⟨n', rfl⟩ := dec n' (by omega)
    have hld : (a.drop p).length = a.length - p := List.length_drop
    obtain ⟨m, k, e, h1, h2, h3, h4, h5⟩ := getNat' (a.drop p) (by omega)
    rw [refStep a x2 hx hl p c hp (by omega) acc (by omega) n m k e h2 h4, ownStep (a.drop p) x2 hx (by omega) c (by omega) acc (by omega) n' m k e h1 h3 h4]
    by_cases c1 : e ≠ 0 ∨ 1000 < m ∨ (a.drop p).length < k + (m - 1)
    · rw [if_pos c1, if_pos (by omega)]
      exact ⟨_, _, rfl, rfl, by simp⟩
    rw [if_neg c1]
    simp only [not_or, Nat.not_lt, ne_eq, Decidable.not_not] at c1
    obtain ⟨c1, c2, c3⟩ := c1
    by_cases c4 : 513 < m
    · rw [if_pos (by omega)]
      obtain ⟨l, b, g1, g2, g3⟩ := refTotal a x2 hx hl r (c + 1) (p + (k + (m - 1))) (acc ++ [slotOf m k (a.drop p)]) (by omega) (by simp; omega) (by omega) (ht.more (slotOf_thin (by omega))) n (by omega)
      match b, g1, g2, g3 with
      | false, g1, g2, _ =>
        have := g2 rfl
        subst this
        exact ⟨_, _, g1, rfl, by simp⟩
      | true, g1, _, g3 =>
        obtain ⟨⟨t, hlt⟩, h6, h7⟩ := g3 rfl
        have h8 := (err_fit h6).2.1
        have h9 := body_mem l (slotOf m k (a.drop p)) (by rw [hlt]; simp)
        have h10 := slotT_ge (slotOf m k (a.drop p)) (by simp [slotOf]; omega)
        have h11 : (slotOf m k (a.drop p)).Text.length = m - 1 := by simp only [slotOf, List.length_take, List.length_drop]; omega
        unfold leafT at h8
        rw [List.length_append] at h8
        omega
    · rw [if_neg (by omega), List.drop_drop]
      refine ih (c + 1) (p + (k + (m - 1))) (acc ++ [slotOf m k (a.drop p)]) (by omega) (by simp; omega) (by omega) (ht.more (slotOf_thin (by omega))) ?_ n n' (by omega) (by omega)
      rw [body_append, ← List.append_assoc, ← hpre, List.take_add, body, body, List.append_nil, slotT_of (h5 c1) c3]
theorem read_eq (a : List UInt8) (hl : a.length ≤ 4611686018427387904) : ∃ l b, m88_quirref_LeafRead a = some ((⟨l⟩ : TLeaf), b) ∧ m87_leaf_Read a = some ((⟨l⟩ : TLeaf), if b = true then 0 else 4) ∧ l.length ≤ 40 := by
  obtain ⟨m, k, e, h1, h2, h3, h4, h5⟩ := getNat' a (by omega)
  rw [m88_quirref_LeafRead, m87_leaf_Read, h1, h2, bind3_some, bind3_some]
  by_cases c1 : e ≠ 0
  · rw [if_pos c1, if_pos c1]; exact ⟨_, _, rfl, rfl, by simp⟩
  by_cases c2 : 40 < m
  · rw [if_neg c1, if_neg c1, if_pos (by omega), if_pos (by omega)]; exact ⟨_, _, rfl, rfl, by simp⟩
  rw [if_neg c1, if_neg c1, if_neg (by omega), if_neg (by omega), m88_quirref_LeafRead_K1, m87_leaf_Read_K1, cut_drop a k h4, bind1_some]
  exact agree a m (by omega) hl m 0 k [] (by omega) rfl h4 (by simp [Thin]) (by rw [← h5 (by simpa using c1)]; simp [body]) big big (by rw [big_eq]; omega) (by rw [big_eq]; omega)
end Go.Proofs.Ytfmgjigdebofaaa
