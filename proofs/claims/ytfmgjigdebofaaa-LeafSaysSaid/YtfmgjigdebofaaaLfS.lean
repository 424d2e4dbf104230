/-
  Package leaf: what is handed in is answered as the document answers.
  Conditions: none.
-/
import Derived.Test.YtfmgjigdebofaaaLfQ
namespace Go.Proofs.Ytfmgjigdebofaaa
open Go.S
set_option linter.unusedVariables false
set_option linter.unusedSimpArgs false

theorem law_cutA (l : List TSlot) (hl : l.length ≤ 40) (l0 : List TSlot) (k : Int) (s13 : List UInt8) (x14 : Int) (x16 : TLeaf) (x18 : Int) : ∀ (i : Nat), i ≤ l.length → ∀ n, i < n →
    m13_quirlaw_LeafSays_L1 ⟨l0⟩ k s13 x14 x16 x18 n (i : Int) (l.take i) = m13_quirlaw_LeafSays_K9 ⟨l0⟩ k s13 x14 x16 x18 (l.take (trim l i)) := by
  intro i
  induction i with
  | zero =>
    intro hi n hn
    obtain ⟨n, rfl⟩ := dec n hn
    rw [m13_quirlaw_LeafSays_L1, m13_quirlaw_LeafSays_L1B, if_neg (by omega)]
    rfl
  | succ i ih =>
    intro hi n hn
    obtain ⟨n, rfl⟩ := dec n (by omega)
    have hlt : i < (l.take (i + 1)).length := by rw [List.length_take]; omega
    have hg : (l.take (i + 1))[i] = l[i] := by rw [List.getElem_take]
    have hc := cut_mid (l.take (i + 1)) 0 i (by omega)
    rw [Nat.zero_add, List.drop_zero, List.take_take, Nat.min_eq_left (by omega)] at hc
    rw [m13_quirlaw_LeafSays_L1, m13_quirlaw_LeafSays_L1B, if_pos (by omega), ipred _ (by omega) (by omega), bind1_some, show i + 1 - 1 = i from rfl, idx_ok hlt, bind1_some, bind1_some, show (0 : Int) = ((0 : Nat) : Int) from rfl, hc, bind1_some, bind1_some, ih (by omega) n (by omega), trim_succ (by omega), hg]
    split <;> rfl
theorem law7A (l : List TSlot) (hS : Sz l) (h : err l = 0) (k : Int) : ∃ s x14 x16 x18, m84_leaf_Get ⟨l⟩ k = some (s, x14) ∧ m85_leaf_Drop ⟨l⟩ k = some (x16, x18) ∧ m13_quirlaw_LeafSays_K7 k s x14 x16 x18 ⟨l⟩ = some true := by
  have h1 := err_fit h
  rw [get_eq l hS, drop_eq l hS, if_neg (by simp [h]), if_neg (by simp [h])]
  match ht : there l k with
  | none =>
    refine ⟨_, _, _, _, rfl, rfl, ?_⟩
    have hn : m13_quirlaw_LeafSays_K11 [] 6 ⟨[]⟩ 6 ⟨l⟩ k true = some true := by
      rw [m13_quirlaw_LeafSays_K11, if_pos rfl, if_pos rfl, if_pos rfl, m13_quirlaw_LeafSays_K12, if_pos rfl, same_eq [] [] (by simp), bind1_some]
      decide
    rw [m13_quirlaw_LeafSays_K7]
    by_cases c1 : k < 0
    · rw [if_pos c1, m13_quirlaw_LeafSays_K13, if_pos rfl, hn]
    · rw [if_neg c1]
      obtain ⟨i, rfl⟩ := Int.eq_ofNat_of_zero_le (show 0 ≤ k by omega)
      by_cases c2 : l.length ≤ i
      · rw [if_pos (show (l.length : Int) ≤ (i : Int) by omega), m13_quirlaw_LeafSays_K13, if_pos rfl, hn]
      · have hi : i < l.length := by omega
        rw [if_neg (show ¬ (l.length : Int) ≤ (i : Int) by omega), m13_quirlaw_LeafSays_K13, if_neg (by simp), show (⟨l⟩ : TLeaf).Slots = l from rfl, idx_ok hi, bind1_some, hn]
        unfold there at ht
        rw [idx_ok hi] at ht
        by_cases c : l[i].Used = true
        · simp [c] at ht
        · rw [if_neg c]
  | some x =>
    obtain ⟨i, rfl, hi, hx, hu⟩ := there_some ht
    refine ⟨_, _, _, _, rfl, rfl, ?_⟩
    rw [m13_quirlaw_LeafSays_K7, if_neg (by omega), if_neg (show ¬ (l.length : Int) ≤ (i : Int) by omega), m13_quirlaw_LeafSays_K13, if_neg (by simp), show (⟨l⟩ : TLeaf).Slots = l from rfl, idx_ok hi, bind1_some, hx, if_pos hu, m13_quirlaw_LeafSays_K11, if_neg (by simp), m13_quirlaw_LeafSays_K8, show (⟨l⟩ : TLeaf).Slots = l from rfl, clone_eq l (by omega), bind1_some, idx_ok hi, bind1_some, upd_ok _ hi, bind1_some]
    have := law_cutA (l.set i ⟨false, []⟩) (by simp; omega) l (i : Int) x.Text 0 ⟨less l i⟩ 0 _ (Nat.le_refl _) big (by rw [big_eq, List.length_set]; omega)
    rw [List.take_length, List.length_set] at this
    rw [List.length_set, Int.toNat_natCast, this, m13_quirlaw_LeafSays_K9, show (⟨l⟩ : TLeaf).Slots = l from rfl, idx_ok hi, bind1_some, hx, if_pos rfl, if_pos rfl, m13_quirlaw_LeafSays_K10, if_pos rfl, same_eq _ _ (by simp [less]; omega), bind1_some, if_pos (by simp [less])]
    rfl
theorem law6A (l : List TSlot) (hS : Sz l) (h : err l = 0) (t : List UInt8) (k : Int) (s : List UInt8) (x14 : Int) (x16 : TLeaf) (x18 : Int) (h7 : m13_quirlaw_LeafSays_K7 k s x14 x16 x18 ⟨l⟩ = some true) : ∃ x7 x9 x10, m83_leaf_Put ⟨l⟩ t = some (x7, x9, x10) ∧ m13_quirlaw_LeafSays_K6 t x7 x9 x10 k s x14 x16 x18 ⟨l⟩ (fu l : Nat) (wide l) = some true := by
  have h1 := err_fit h
  have hw := wide_len l
  have hwl := want_len l t
  rw [put_eq l hS t, if_neg (by simp [h])]
  by_cases he : err (want l t) = 0
  · rw [if_neg (by simp [he])]
    refine ⟨_, _, _, rfl, ?_⟩
    have htl : t.length ≤ 512 := by
      apply Classical.byContradiction
      intro hc
      exact want_fat h (by omega) he
    rw [m13_quirlaw_LeafSays_K6, idx_ok hw.1, bind1_some, upd_ok _ hw.1, bind1_some, show (wide l).set (fu l) ⟨true, t⟩ = want l t from rfl, if_neg (by omega), refCheck_eq _ (want_sz hS (by omega)), bind1_some, if_neg (by simp [he]), m13_quirlaw_LeafSays_K14, if_neg (by simp), same_eq _ _ (by omega), bind1_some, if_pos (by simp), if_neg (by simp), m13_quirlaw_LeafSays_K15, if_neg (by simp), if_neg (by simp), h7]
  · rw [if_pos he]
    refine ⟨_, _, _, rfl, ?_⟩
    have h14 : m13_quirlaw_LeafSays_K14 ⟨[]⟩ 0 8 k s x14 x16 x18 ⟨l⟩ (want l t) (fu l : Nat) true = some true := by
      rw [m13_quirlaw_LeafSays_K14, if_pos rfl, same_eq [] [] (by simp), bind1_some, if_pos (by simp), if_neg (by simp), m13_quirlaw_LeafSays_K16, if_neg (by simp), if_neg (by simp), h7]
    rw [m13_quirlaw_LeafSays_K6, idx_ok hw.1, bind1_some, upd_ok _ hw.1, bind1_some, show (wide l).set (fu l) ⟨true, t⟩ = want l t from rfl, h14]
    by_cases ht : (4096 : Int) < t.length
    · rw [if_pos ht]
    · rw [if_neg ht, refCheck_eq _ (want_sz hS (by omega)), bind1_some, if_pos he]
theorem law5A (l : List TSlot) (hl : l.length ≤ 40) (t : List UInt8) (x7 : TLeaf) (x9 x10 k : Int) (s : List UInt8) (x14 : Int) (x16 : TLeaf) (x18 : Int) : ∀ (r i : Nat), i + r = l.length → ∀ n, r < n →
    m13_quirlaw_LeafSays_L2 ⟨l⟩ t x7 x9 x10 k s x14 x16 x18 n (i : Int) = m13_quirlaw_LeafSays_K5 ⟨l⟩ t x7 x9 x10 k s x14 x16 x18 (if i + fu (l.drop i) < l.length then ((i + fu (l.drop i) : Nat) : Int) else -1) := by
  intro r
  induction r with
  | zero =>
    intro i hi n hn
    obtain ⟨n, rfl⟩ := dec n hn
    rw [m13_quirlaw_LeafSays_L2, m13_quirlaw_LeafSays_L2B, if_neg (show ¬ (i : Int) < (l.length : Int) by omega), m13_quirlaw_LeafSays_K17, if_neg (by omega)]
  | succ r ih =>
    intro i hi n hn
    obtain ⟨n, rfl⟩ := dec n (by omega)
    have h1 : i < l.length := by omega
    rw [m13_quirlaw_LeafSays_L2, m13_quirlaw_LeafSays_L2B, if_pos (show (i : Int) < (l.length : Int) by omega), idx_ok (l := l) h1, bind1_some, m13_quirlaw_LeafSays_K18, isucc i (by omega), bind1_some, ih (i + 1) (by omega) n (by omega), drop_cons h1, fu]
    by_cases c : l[i].Used = true
    · rw [if_neg (by simp [c]), if_pos c, show i + 1 + fu (l.drop (i + 1)) = i + (fu (l.drop (i + 1)) + 1) by omega]
    · rw [if_pos (by simp [c]), if_neg c, if_pos (by omega)]; rfl
theorem lawA (l : List TSlot) (hS : Sz l) (t : List UInt8) (k : Int) : ∃ x4 x5 x7 x9 x10 s13 x14 x16 x18 s21 x22, m82_leaf_Free ⟨l⟩ = some (x4, x5) ∧ m83_leaf_Put ⟨l⟩ t = some (x7, x9, x10) ∧ m84_leaf_Get ⟨l⟩ k = some (s13, x14) ∧ m85_leaf_Drop ⟨l⟩ k = some (x16, x18) ∧ m86_leaf_Text ⟨l⟩ = some (s21, x22) ∧
    m13_quirlaw_LeafSays_K2 (err l) x4 x5 x7 x9 x10 s13 x14 x16 x18 s21 x22 ⟨l⟩ t k = some true := by
  by_cases h : err l = 0
  · have h1 := err_fit h
    obtain ⟨s, x14, x16, x18, g1, g2, h7⟩ := law7A l hS h k
    obtain ⟨x7, x9, x10, g3, h6⟩ := law6A l hS h t k s x14 x16 x18 h7
    refine ⟨_, _, _, _, _, _, _, _, _, _, _, by rw [free_eq l hS, if_neg (by simp [h])], g3, g1, g2, by rw [text_eq l hS, if_neg (by simp [h])], ?_⟩
    have h5 := law5A l h1.1 t x7 x9 x10 k s x14 x16 x18 l.length 0 (by omega) big (by rw [big_eq]; omega)
    rw [show ((0 : Nat) : Int) = 0 from rfl, List.drop_zero, Nat.zero_add] at h5
    rw [m13_quirlaw_LeafSays_K2, if_neg (by simp [h]), m13_quirlaw_LeafSays_K3, refText_eq l hS (by omega), bind1_some, i64_ok (by omega) (by omega), bind1_some, if_neg (by simp), if_neg (by simp), m13_quirlaw_LeafSays_K19, if_neg (by simp), refText_eq l hS (by omega), bind1_some, if_neg (by simp), if_neg (by simp), m13_quirlaw_LeafSays_K4, h5, m13_quirlaw_LeafSays_K5, show (⟨l⟩ : TLeaf).Slots = l from rfl, clone_eq l (by omega), bind1_some]
    have hf := fu_le l
    by_cases c : fu l < l.length
    · rw [if_pos c, if_neg (by omega)]
      rwa [show wide l = l from if_pos c] at h6
    · rw [if_neg c, if_pos (by omega), app_ok (by simp; omega), bind1_some]
      rwa [show wide l = l ++ [⟨false, []⟩] from if_neg c, show fu l = l.length by omega] at h6
  · refine ⟨_, _, _, _, _, _, _, _, _, _, _, by rw [free_eq l hS, if_pos h], by rw [put_eq l hS t, if_pos h], by rw [get_eq l hS, if_pos h], by rw [drop_eq l hS, if_pos h], by rw [text_eq l hS, if_pos h], ?_⟩
    have hs : m89_quirref_SameLeaf ⟨[]⟩ ⟨[]⟩ = some true := by rw [same_eq [] [] (by simp)]; simp
    rw [m13_quirlaw_LeafSays_K2, if_pos h, if_pos rfl, if_pos rfl, m13_quirlaw_LeafSays_K20, if_pos rfl, hs, bind1_some, if_pos rfl, if_pos rfl, m13_quirlaw_LeafSays_K21, if_pos rfl, if_pos rfl, if_pos rfl, m13_quirlaw_LeafSays_K22, if_pos rfl, if_pos rfl, hs, bind1_some, if_pos rfl, m13_quirlaw_LeafSays_K23, if_pos rfl, if_pos rfl, if_pos rfl, m13_quirlaw_LeafSays_K24, if_pos rfl]
    simp

theorem law_cutB (l : List TSlot) (hl : l.length ≤ 40) (l0 : List TSlot) (k : Int) (s13 : List UInt8) (x14 : Int) (x16 : TLeaf) (x18 : Int) : ∀ (i : Nat), i ≤ l.length → ∀ n, i < n →
    m13_quirlaw_LeafSays_L3 ⟨l0⟩ k s13 x14 x16 x18 n (i : Int) (l.take i) = m13_quirlaw_LeafSays_K33 ⟨l0⟩ k s13 x14 x16 x18 (l.take (trim l i)) := by
  intro i
  induction i with
  | zero =>
    intro hi n hn
    obtain ⟨n, rfl⟩ := dec n hn
    rw [m13_quirlaw_LeafSays_L3, m13_quirlaw_LeafSays_L3B, if_neg (by omega)]
    rfl
  | succ i ih =>
    intro hi n hn
    obtain ⟨n, rfl⟩ := dec n (by omega)
    have hlt : i < (l.take (i + 1)).length := by rw [List.length_take]; omega
    have hg : (l.take (i + 1))[i] = l[i] := by rw [List.getElem_take]
    have hc := cut_mid (l.take (i + 1)) 0 i (by omega)
    rw [Nat.zero_add, List.drop_zero, List.take_take, Nat.min_eq_left (by omega)] at hc
    rw [m13_quirlaw_LeafSays_L3, m13_quirlaw_LeafSays_L3B, if_pos (by omega), ipred _ (by omega) (by omega), bind1_some, show i + 1 - 1 = i from rfl, idx_ok hlt, bind1_some, bind1_some, show (0 : Int) = ((0 : Nat) : Int) from rfl, hc, bind1_some, bind1_some, ih (by omega) n (by omega), trim_succ (by omega), hg]
    split <;> rfl
theorem law7B (l : List TSlot) (hS : Sz l) (h : err l = 0) (k : Int) : ∃ s x14 x16 x18, m84_leaf_Get ⟨l⟩ k = some (s, x14) ∧ m85_leaf_Drop ⟨l⟩ k = some (x16, x18) ∧ m13_quirlaw_LeafSays_K31 k s x14 x16 x18 ⟨l⟩ = some true := by
  have h1 := err_fit h
  rw [get_eq l hS, drop_eq l hS, if_neg (by simp [h]), if_neg (by simp [h])]
  match ht : there l k with
  | none =>
    refine ⟨_, _, _, _, rfl, rfl, ?_⟩
    have hn : m13_quirlaw_LeafSays_K35 [] 6 ⟨[]⟩ 6 ⟨l⟩ k true = some true := by
      rw [m13_quirlaw_LeafSays_K35, if_pos rfl, if_pos rfl, if_pos rfl, m13_quirlaw_LeafSays_K36, if_pos rfl, same_eq [] [] (by simp), bind1_some]
      decide
    rw [m13_quirlaw_LeafSays_K31]
    by_cases c1 : k < 0
    · rw [if_pos c1, m13_quirlaw_LeafSays_K37, if_pos rfl, hn]
    · rw [if_neg c1]
      obtain ⟨i, rfl⟩ := Int.eq_ofNat_of_zero_le (show 0 ≤ k by omega)
      by_cases c2 : l.length ≤ i
      · rw [if_pos (show (l.length : Int) ≤ (i : Int) by omega), m13_quirlaw_LeafSays_K37, if_pos rfl, hn]
      · have hi : i < l.length := by omega
        rw [if_neg (show ¬ (l.length : Int) ≤ (i : Int) by omega), m13_quirlaw_LeafSays_K37, if_neg (by simp), show (⟨l⟩ : TLeaf).Slots = l from rfl, idx_ok hi, bind1_some, hn]
        unfold there at ht
        rw [idx_ok hi] at ht
        by_cases c : l[i].Used = true
        · simp [c] at ht
        · rw [if_neg c]
  | some x =>
    obtain ⟨i, rfl, hi, hx, hu⟩ := there_some ht
    refine ⟨_, _, _, _, rfl, rfl, ?_⟩
    rw [m13_quirlaw_LeafSays_K31, if_neg (by omega), if_neg (show ¬ (l.length : Int) ≤ (i : Int) by omega), m13_quirlaw_LeafSays_K37, if_neg (by simp), show (⟨l⟩ : TLeaf).Slots = l from rfl, idx_ok hi, bind1_some, hx, if_pos hu, m13_quirlaw_LeafSays_K35, if_neg (by simp), m13_quirlaw_LeafSays_K32, show (⟨l⟩ : TLeaf).Slots = l from rfl, clone_eq l (by omega), bind1_some, idx_ok hi, bind1_some, upd_ok _ hi, bind1_some]
    have := law_cutB (l.set i ⟨false, []⟩) (by simp; omega) l (i : Int) x.Text 0 ⟨less l i⟩ 0 _ (Nat.le_refl _) big (by rw [big_eq, List.length_set]; omega)
    rw [List.take_length, List.length_set] at this
    rw [List.length_set, Int.toNat_natCast, this, m13_quirlaw_LeafSays_K33, show (⟨l⟩ : TLeaf).Slots = l from rfl, idx_ok hi, bind1_some, hx, if_pos rfl, if_pos rfl, m13_quirlaw_LeafSays_K34, if_pos rfl, same_eq _ _ (by simp [less]; omega), bind1_some, if_pos (by simp [less])]
    rfl
theorem law6B (l : List TSlot) (hS : Sz l) (h : err l = 0) (t : List UInt8) (k : Int) (s : List UInt8) (x14 : Int) (x16 : TLeaf) (x18 : Int) (h7 : m13_quirlaw_LeafSays_K31 k s x14 x16 x18 ⟨l⟩ = some true) : ∃ x7 x9 x10, m83_leaf_Put ⟨l⟩ t = some (x7, x9, x10) ∧ m13_quirlaw_LeafSays_K30 t x7 x9 x10 k s x14 x16 x18 ⟨l⟩ (fu l : Nat) (wide l) = some true := by
  have h1 := err_fit h
  have hw := wide_len l
  have hwl := want_len l t
  rw [put_eq l hS t, if_neg (by simp [h])]
  by_cases he : err (want l t) = 0
  · rw [if_neg (by simp [he])]
    refine ⟨_, _, _, rfl, ?_⟩
    have htl : t.length ≤ 512 := by
      apply Classical.byContradiction
      intro hc
      exact want_fat h (by omega) he
    rw [m13_quirlaw_LeafSays_K30, idx_ok hw.1, bind1_some, upd_ok _ hw.1, bind1_some, show (wide l).set (fu l) ⟨true, t⟩ = want l t from rfl, if_neg (by omega), refCheck_eq _ (want_sz hS (by omega)), bind1_some, if_neg (by simp [he]), m13_quirlaw_LeafSays_K38, if_neg (by simp), same_eq _ _ (by omega), bind1_some, if_pos (by simp), if_neg (by simp), m13_quirlaw_LeafSays_K39, if_neg (by simp), if_neg (by simp), h7]
  · rw [if_pos he]
    refine ⟨_, _, _, rfl, ?_⟩
    have h14 : m13_quirlaw_LeafSays_K38 ⟨[]⟩ 0 8 k s x14 x16 x18 ⟨l⟩ (want l t) (fu l : Nat) true = some true := by
      rw [m13_quirlaw_LeafSays_K38, if_pos rfl, same_eq [] [] (by simp), bind1_some, if_pos (by simp), if_neg (by simp), m13_quirlaw_LeafSays_K40, if_neg (by simp), if_neg (by simp), h7]
    rw [m13_quirlaw_LeafSays_K30, idx_ok hw.1, bind1_some, upd_ok _ hw.1, bind1_some, show (wide l).set (fu l) ⟨true, t⟩ = want l t from rfl, h14]
    by_cases ht : (4096 : Int) < t.length
    · rw [if_pos ht]
    · rw [if_neg ht, refCheck_eq _ (want_sz hS (by omega)), bind1_some, if_pos he]
theorem law5B (l : List TSlot) (hl : l.length ≤ 40) (t : List UInt8) (x7 : TLeaf) (x9 x10 k : Int) (s : List UInt8) (x14 : Int) (x16 : TLeaf) (x18 : Int) : ∀ (r i : Nat), i + r = l.length → ∀ n, r < n →
    m13_quirlaw_LeafSays_L4 ⟨l⟩ t x7 x9 x10 k s x14 x16 x18 n (i : Int) = m13_quirlaw_LeafSays_K29 ⟨l⟩ t x7 x9 x10 k s x14 x16 x18 (if i + fu (l.drop i) < l.length then ((i + fu (l.drop i) : Nat) : Int) else -1) := by
  intro r
  induction r with
  | zero =>
    intro i hi n hn
    obtain ⟨n, rfl⟩ := dec n hn
    rw [m13_quirlaw_LeafSays_L4, m13_quirlaw_LeafSays_L4B, if_neg (show ¬ (i : Int) < (l.length : Int) by omega), m13_quirlaw_LeafSays_K41, if_neg (by omega)]
  | succ r ih =>
    intro i hi n hn
    obtain ⟨n, rfl⟩ := dec n (by omega)
    have h1 : i < l.length := by omega
    rw [m13_quirlaw_LeafSays_L4, m13_quirlaw_LeafSays_L4B, if_pos (show (i : Int) < (l.length : Int) by omega), idx_ok (l := l) h1, bind1_some, m13_quirlaw_LeafSays_K42, isucc i (by omega), bind1_some, ih (i + 1) (by omega) n (by omega), drop_cons h1, fu]
    by_cases c : l[i].Used = true
    · rw [if_neg (by simp [c]), if_pos c, show i + 1 + fu (l.drop (i + 1)) = i + (fu (l.drop (i + 1)) + 1) by omega]
    · rw [if_pos (by simp [c]), if_neg c, if_pos (by omega)]; rfl
theorem lawB (l : List TSlot) (hS : Sz l) (t : List UInt8) (k : Int) : ∃ x4 x5 x7 x9 x10 s13 x14 x16 x18 s21 x22, m82_leaf_Free ⟨l⟩ = some (x4, x5) ∧ m83_leaf_Put ⟨l⟩ t = some (x7, x9, x10) ∧ m84_leaf_Get ⟨l⟩ k = some (s13, x14) ∧ m85_leaf_Drop ⟨l⟩ k = some (x16, x18) ∧ m86_leaf_Text ⟨l⟩ = some (s21, x22) ∧
    m13_quirlaw_LeafSays_K26 (err l) x4 x5 x7 x9 x10 s13 x14 x16 x18 s21 x22 ⟨l⟩ t k = some true := by
  by_cases h : err l = 0
  · have h1 := err_fit h
    obtain ⟨s, x14, x16, x18, g1, g2, h7⟩ := law7B l hS h k
    obtain ⟨x7, x9, x10, g3, h6⟩ := law6B l hS h t k s x14 x16 x18 h7
    refine ⟨_, _, _, _, _, _, _, _, _, _, _, by rw [free_eq l hS, if_neg (by simp [h])], g3, g1, g2, by rw [text_eq l hS, if_neg (by simp [h])], ?_⟩
    have h5 := law5B l h1.1 t x7 x9 x10 k s x14 x16 x18 l.length 0 (by omega) big (by rw [big_eq]; omega)
    rw [show ((0 : Nat) : Int) = 0 from rfl, List.drop_zero, Nat.zero_add] at h5
    rw [m13_quirlaw_LeafSays_K26, if_neg (by simp [h]), m13_quirlaw_LeafSays_K27, refText_eq l hS (by omega), bind1_some, i64_ok (by omega) (by omega), bind1_some, if_neg (by simp), if_neg (by simp), m13_quirlaw_LeafSays_K43, if_neg (by simp), refText_eq l hS (by omega), bind1_some, if_neg (by simp), if_neg (by simp), m13_quirlaw_LeafSays_K28, h5, m13_quirlaw_LeafSays_K29, show (⟨l⟩ : TLeaf).Slots = l from rfl, clone_eq l (by omega), bind1_some]
    have hf := fu_le l
    by_cases c : fu l < l.length
    · rw [if_pos c, if_neg (by omega)]
      rwa [show wide l = l from if_pos c] at h6
    · rw [if_neg c, if_pos (by omega), app_ok (by simp; omega), bind1_some]
      rwa [show wide l = l ++ [⟨false, []⟩] from if_neg c, show fu l = l.length by omega] at h6
  · refine ⟨_, _, _, _, _, _, _, _, _, _, _, by rw [free_eq l hS, if_pos h], by rw [put_eq l hS t, if_pos h], by rw [get_eq l hS, if_pos h], by rw [drop_eq l hS, if_pos h], by rw [text_eq l hS, if_pos h], ?_⟩
    have hs : m89_quirref_SameLeaf ⟨[]⟩ ⟨[]⟩ = some true := by rw [same_eq [] [] (by simp)]; simp
    rw [m13_quirlaw_LeafSays_K26, if_pos h, if_pos rfl, if_pos rfl, m13_quirlaw_LeafSays_K44, if_pos rfl, hs, bind1_some, if_pos rfl, if_pos rfl, m13_quirlaw_LeafSays_K45, if_pos rfl, if_pos rfl, if_pos rfl, m13_quirlaw_LeafSays_K46, if_pos rfl, if_pos rfl, hs, bind1_some, if_pos rfl, m13_quirlaw_LeafSays_K47, if_pos rfl, if_pos rfl, if_pos rfl, m13_quirlaw_LeafSays_K48, if_pos rfl]
    simp

theorem leaf_true (l : List TSlot) (hS : Sz l) (t : List UInt8) (k : Int) (s : List UInt8) (hs : s.length ≤ 4611686018427387904) : m13_quirlaw_LeafSays ⟨l⟩ t k s = some true := by
  obtain ⟨x4, x5, x7, x9, x10, s13, x14, x16, x18, s21, x22, g1, g2, g3, g4, g5, hA⟩ := lawA l hS t k
  obtain ⟨y4, y5, y7, y9, y10, t13, y14, y16, y18, t21, y22, f1, f2, f3, f4, f5, hB⟩ := lawB l hS t k
  rw [g1] at f1; rw [g2] at f2; rw [g3] at f3; rw [g4] at f4; rw [g5] at f5
  simp only [Option.some.injEq, Prod.mk.injEq] at f1 f2 f3 f4 f5
  obtain ⟨rfl, rfl⟩ := f1
  obtain ⟨rfl, rfl, rfl⟩ := f2
  obtain ⟨rfl, rfl⟩ := f3
  obtain ⟨rfl, rfl⟩ := f4
  obtain ⟨rfl, rfl⟩ := f5
  obtain ⟨q, b, r1, r2, r3⟩ := read_eq s hs
  have hsame : m89_quirref_SameLeaf ⟨q⟩ ⟨q⟩ = some true := by rw [same_eq q q (by omega)]; simp
  rw [m13_quirlaw_LeafSays, refCheck_eq l hS, bind1_some, g1, bind2_some, g2, bind3_some, g3, bind2_some, g4, bind2_some, g5, bind2_some, r2, bind2_some, r1, bind2_some]
  match b with
  | true =>
    rw [if_pos rfl, if_pos rfl, m13_quirlaw_LeafSays_K1, if_pos rfl, show (⟨q⟩ : TLeaf).Slots = q from rfl, hsame, bind1_some, if_pos rfl, if_neg (by simp), m13_quirlaw_LeafSays_K49, if_neg (by simp), check_eq l hS, bind1_some, if_neg (by simp), hB]
  | false =>
    rw [if_neg (by simp), if_neg (by simp), m13_quirlaw_LeafSays_K1, if_neg (by simp), show (⟨q⟩ : TLeaf).Slots = q from rfl, hsame, bind1_some, if_pos rfl, if_neg (by simp), m13_quirlaw_LeafSays_K25, if_neg (by simp), if_neg (by simp), check_eq l hS, bind1_some, if_neg (by simp), hA]
end Go.Proofs.Ytfmgjigdebofaaa
