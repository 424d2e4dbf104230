/-
  Package leaf: put, get, drop.
  Conditions: none.
-/
import Derived.Test.YtfmgjigdebofaaaLfL
namespace Go.Proofs.Ytfmgjigdebofaaa
open Go.S
set_option linter.unusedVariables false
set_option linter.unusedSimpArgs false

/-! ### Are two pages one -/
theorem sameLoop (a b : List TSlot) (hab : a.length = b.length) (hl : a.length ≤ 1099511627776) : ∀ (r i : Nat), i + r = a.length → ∀ n, r < n →
    m138_api_Slot_L1 a b n (i : Int) = some (decide (a.drop i = b.drop i)) := by
  intro r
  induction r with
  | zero =>
    intro i hi n hn
    obtain ⟨n, rfl⟩ := dec n hn
    rw [m138_api_Slot_L1, m138_api_Slot_L1B, if_neg (by omega), List.drop_eq_nil_of_le (by omega), List.drop_eq_nil_of_le (by omega), m138_api_Slot_K2]
    simp
  | succ r ih =>
    intro i hi n hn
    obtain ⟨n, rfl⟩ := dec n (by omega)
    have h1 : i < a.length := by omega
    have h2 : i < b.length := by omega
    rw [m138_api_Slot_L1, m138_api_Slot_L1B, if_pos (by omega), idx_ok h1, bind1_some, idx_ok h2, bind1_some, isucc i (by omega), bind1_some, ih (i + 1) (by omega) n (by omega)]
    have e : (a.drop i = b.drop i) ↔ (a[i] = b[i] ∧ a.drop (i + 1) = b.drop (i + 1)) := by rw [drop_cons h1, drop_cons h2, List.cons.injEq]
    by_cases c : a[i] = b[i]
    · rw [if_neg (by simp [c])]
      congr 1
      rw [decide_eq_decide, e]
      exact ⟨fun h => ⟨c, h⟩, fun h => h.2⟩
    · rw [if_pos c]
      congr 1
      symm
      rw [decide_eq_false_iff_not, e]
      exact fun h => c h.1
theorem same_eq (a b : List TSlot) (hl : a.length ≤ 1099511627776) : m89_quirref_SameLeaf ⟨a⟩ ⟨b⟩ = some (decide (a = b)) := by
  rw [m89_quirref_SameLeaf, m138_api_Slot]
  by_cases h : a.length = b.length
  · rw [if_neg (by simp [h]), m138_api_Slot_K1]
    have := sameLoop a b h hl a.length 0 (by omega) big (by rw [big_eq]; omega)
    rw [show ((0 : Nat) : Int) = 0 from rfl, List.drop_zero, List.drop_zero] at this
    rw [this]; rfl
  · rw [if_pos (by simp; omega), bind1_some]
    congr 1
    symm
    apply decide_eq_false
    intro h'; exact h (by rw [h'])

/-! ### Free -/
theorem err_fit {l : List TSlot} (h : err l = 0) : l.length ≤ 40 ∧ (leafT l).length ≤ 512 ∧ l.any badS = false ∧ lastBad l = false := by
  unfold err at h
  split at h
  · omega
  split at h
  · omega
  split at h
  · omega
  rename_i h1 h2 h3
  simp only [Bool.or_eq_true, not_or, Bool.not_eq_true] at h2
  exact ⟨by omega, by omega, h2.1, h2.2⟩
theorem free_eq (l : List TSlot) (hS : Sz l) : m82_leaf_Free ⟨l⟩ = if err l ≠ 0 then some (0, err l) else some (512 - ((leafT l).length : Int), 0) := by
  rw [m82_leaf_Free, check_eq l hS, bind1_some]
  by_cases h : err l = 0
  · have h1 := err_fit h
    rw [if_neg (by simp [h]), if_neg (by simp [h]), size_eq l hS (by omega), bind1_some, i64_ok (by omega) (by omega), bind1_some]
  · rw [if_pos h, if_pos h]
theorem text_eq (l : List TSlot) (hS : Sz l) : m86_leaf_Text ⟨l⟩ = if err l ≠ 0 then some ([], err l) else some (leafT l, 0) := by
  rw [m86_leaf_Text, check_eq l hS, bind1_some]
  by_cases h : err l = 0
  · have h1 := err_fit h
    rw [if_neg (by simp [h]), if_neg (by simp [h]), ownText_eq l hS (by omega)]
  · rw [if_pos h, if_pos h]
theorem copied_eq (l : List TSlot) (hl : l.length ≤ 1099511627776) : m137_leaf_copied ⟨l⟩ = some ⟨l⟩ := by
  rw [m137_leaf_copied, app_ok (by simpa using hl), bind1_some]; rfl
theorem clone_eq (l : List TSlot) (hl : l.length ≤ 1099511627776) : m94_api_Slot l = some l := by
  rw [m94_api_Slot, app_ok (by simpa using hl), bind1_some]; rfl
theorem upd_ok {α : Type} {l : List α} {i : Nat} (x : α) (h : i < l.length) : upd l (i : Int) x = some (l.set i x) := by
  unfold upd
  rw [if_pos (by omega)]
  rfl

/-! ### Put -/
def fu : List TSlot → Nat
  | [] => 0
  | x :: l => if x.Used = true then fu l + 1 else 0
theorem fu_le : ∀ l : List TSlot, fu l ≤ l.length
  | [] => by simp [fu]
  | x :: l => by
    have := fu_le l
    simp only [fu, List.length_cons]
    split <;> omega
def wide (l : List TSlot) : List TSlot := if fu l < l.length then l else l ++ [⟨false, []⟩]
def want (l : List TSlot) (t : List UInt8) : List TSlot := (wide l).set (fu l) ⟨true, t⟩
theorem wide_len (l : List TSlot) : fu l < (wide l).length ∧ (wide l).length ≤ l.length + 1 := by
  have := fu_le l
  unfold wide
  split
  · omega
  · simp; omega
theorem want_len (l : List TSlot) (t : List UInt8) : (want l t).length = (wide l).length := by simp [want]
theorem want_mem {l : List TSlot} {t : List UInt8} {x : TSlot} (h : x ∈ want l t) : x ∈ l ∨ x = ⟨true, t⟩ ∨ x = ⟨false, []⟩ := by
  rcases List.mem_or_eq_of_mem_set h with h | h
  · unfold wide at h
    split at h
    · exact Or.inl h
    · rcases List.mem_append.1 h with h | h
      · exact Or.inl h
      · exact Or.inr (Or.inr (by simpa using h))
  · exact Or.inr (Or.inl h)
theorem want_sz {l : List TSlot} (hS : Sz l) {t : List UInt8} (ht : t.length ≤ 140737488355328) : Sz (want l t) := by
  intro x hx
  rcases want_mem hx with h | rfl | rfl
  · exact hS x h
  · exact ht
  · simp
theorem want_in (l : List TSlot) (t : List UInt8) : (⟨true, t⟩ : TSlot) ∈ want l t := by
  have := (wide_len l).1
  exact List.mem_set this _
theorem want_badS {l : List TSlot} (h : l.any badS = false) (t : List UInt8) : (want l t).any badS = false := by
  rw [List.any_eq_false] at h ⊢
  intro x hx
  rcases want_mem hx with h1 | rfl | rfl
  · exact h x h1
  · simp [badS]
  · simp [badS]
theorem want_lastBad {l : List TSlot} (h : lastBad l = false) (t : List UInt8) : lastBad (want l t) = false := by
  have hw := wide_len l
  have hle := fu_le l
  rw [lastBad_at (i := (wide l).length - 1) (by rw [want_len]; omega)]
  simp only [want, List.getElem_set]
  by_cases c : fu l = (wide l).length - 1
  · rw [if_pos c]; rfl
  · rw [if_neg c]
    by_cases c2 : fu l < l.length
    · have hwl : wide l = l := if_pos c2
      have := lastBad_at (l := l) (i := l.length - 1) (by omega)
      rw [h] at this
      simp only [hwl]
      exact this.symm
    · have hwl : wide l = l ++ [⟨false, []⟩] := if_neg c2
      rw [hwl] at c
      simp at c
      omega
theorem want_err {l : List TSlot} (h : err l = 0) (t : List UInt8) : err (want l t) = if 40 < (want l t).length then 2 else if 512 < (leafT (want l t)).length then 8 else 0 := by
  have h1 := err_fit h
  rw [err, want_badS h1.2.2.1, want_lastBad h1.2.2.2]
  rfl
theorem want_fat {l : List TSlot} (h : err l = 0) {t : List UInt8} (ht : 512 < t.length) : err (want l t) ≠ 0 := by
  rw [want_err h]
  split
  · decide
  · have h2 := body_mem _ _ (want_in l t)
    have h3 := slotT_ge ⟨true, t⟩ rfl
    rw [if_pos]
    · decide
    · unfold leafT; rw [List.length_append]; simp only at h3; omega
theorem putK4 (l : List TSlot) (hS : Sz l) (h : err l = 0) (t : List UInt8) (ht : t.length ≤ 512) : m83_leaf_Put_K4 ((fu l : Nat) : Int) t (wide l) = if err (want l t) ≠ 0 then some ((⟨[]⟩ : TLeaf), (0 : Int), (8 : Int)) else some ((⟨want l t⟩ : TLeaf), ((fu l : Nat) : Int), (0 : Int)) := by
  have hw := wide_len l
  have hl := (err_fit h).1
  have hwl := want_len l t
  rw [m83_leaf_Put_K4, idx_ok hw.1, bind1_some, upd_ok _ hw.1, bind1_some, show (wide l).set (fu l) ⟨true, t⟩ = want l t from rfl, want_err h]
  by_cases c : 40 < (want l t).length
  · rw [if_pos (show (40 : Int) < ((want l t).length : Int) by omega), if_pos c]; rfl
  · rw [if_neg (show ¬ (40 : Int) < ((want l t).length : Int) by omega), if_neg c, size_eq _ (want_sz hS (by omega)) (by omega), bind1_some]
    by_cases c2 : 512 < (leafT (want l t)).length
    · rw [if_pos (show (512 : Int) < ((leafT (want l t)).length : Int) by omega), if_pos c2]; rfl
    · rw [if_neg (show ¬ (512 : Int) < ((leafT (want l t)).length : Int) by omega), if_neg c2]; rfl
theorem putLoopL (l : List TSlot) (hl : l.length ≤ 40) (t : List UInt8) : ∀ (r i : Nat), i + r = l.length → ∀ n, r < n →
    m83_leaf_Put_L1 ⟨l⟩ t n (i : Int) = m83_leaf_Put_K3 ⟨l⟩ t ((i + fu (l.drop i) : Nat) : Int) := by
  intro r
  induction r with
  | zero =>
    intro i hi n hn
    obtain ⟨n, rfl⟩ := dec n hn
    rw [m83_leaf_Put_L1, m83_leaf_Put_L1B, if_neg (show ¬ (i : Int) < (l.length : Int) by omega), List.drop_eq_nil_of_le (by omega)]
    rfl
  | succ r ih =>
    intro i hi n hn
    obtain ⟨n, rfl⟩ := dec n (by omega)
    have h1 : i < l.length := by omega
    rw [m83_leaf_Put_L1, m83_leaf_Put_L1B, if_pos (show (i : Int) < (l.length : Int) by omega), idx_ok (l := l) h1, bind1_some, isucc i (by omega), bind1_some, ih (i + 1) (by omega) n (by omega), drop_cons h1, fu]
    by_cases c : l[i].Used = true
    · rw [if_pos c, if_pos c]; congr 1; omega
    · rw [if_neg c, if_neg c]; rfl
theorem put_eq (l : List TSlot) (hS : Sz l) (t : List UInt8) : m83_leaf_Put ⟨l⟩ t = if err l ≠ 0 then some ((⟨[]⟩ : TLeaf), (0 : Int), err l) else if err (want l t) ≠ 0 then some ((⟨[]⟩ : TLeaf), (0 : Int), (8 : Int)) else some ((⟨want l t⟩ : TLeaf), ((fu l : Nat) : Int), (0 : Int)) := by
  rw [m83_leaf_Put, check_eq l hS, bind1_some]
  by_cases h : err l = 0
  · have h1 := err_fit h
    rw [if_neg (by simp [h]), if_neg (by simp [h]), m83_leaf_Put_K1]
    by_cases ht : 512 < t.length
    · rw [if_pos (by omega), if_pos (want_fat h ht)]
    · have := putLoopL l h1.1 t l.length 0 (by omega) big (by rw [big_eq]; omega)
      rw [show ((0 : Nat) : Int) = 0 from rfl, List.drop_zero, Nat.zero_add] at this
      rw [if_neg (by omega), m83_leaf_Put_K2, copied_eq l (by omega), bind1_some, this, m83_leaf_Put_K3, ← putK4 l hS h t (by omega)]
      have hf := fu_le l
      by_cases c : fu l < l.length
      · rw [if_neg (show ¬ ((fu l : Nat) : Int) = (l.length : Int) by omega), show wide l = l from if_pos c]
      · rw [if_pos (show ((fu l : Nat) : Int) = (l.length : Int) by omega), show (⟨l⟩ : TLeaf).Slots = l from rfl, app_ok (by simp; omega), bind1_some, show wide l = l ++ [⟨false, []⟩] from if_neg c]
  · rw [if_pos h, if_pos h]

/-! ### Get -/
def there (l : List TSlot) (k : Int) : Option TSlot := match idx l k with
  | some x => if x.Used = true then some x else none
  | none => none
theorem there_some {l : List TSlot} {k : Int} {x : TSlot} (h : there l k = some x) : ∃ i : Nat, k = (i : Int) ∧ ∃ hi : i < l.length, l[i] = x ∧ x.Used = true := by
  unfold there at h
  split at h
  · rename_i y hy
    obtain ⟨h0, h1, h2⟩ := idx_some hy
    split at h
    · rename_i hu
      rw [Option.some.injEq] at h
      subst h
      have hi : k.toNat < l.length := by omega
      refine ⟨k.toNat, by omega, hi, ?_, hu⟩
      rw [List.getElem?_eq_getElem hi, Option.some.injEq] at h2
      exact h2
    · simp at h
  · simp at h
theorem get_eq (l : List TSlot) (hS : Sz l) (k : Int) : m84_leaf_Get ⟨l⟩ k = if err l ≠ 0 then some ([], err l) else match there l k with
    | some x => some (x.Text, 0)
    | none => some ([], 6) := by
  rw [m84_leaf_Get, check_eq l hS, bind1_some]
  by_cases h : err l = 0
  · have h1 := err_fit h
    rw [if_neg (by simp [h]), if_neg (by simp [h]), m84_leaf_Get_K1]
    by_cases c1 : k < 0
    · have : there l k = none := by
        unfold there idx; rw [if_neg (by omega)]
      rw [if_pos c1, this, m84_leaf_Get_K2, if_pos rfl]
    · rw [if_neg c1]
      obtain ⟨i, rfl⟩ := Int.eq_ofNat_of_zero_le (show 0 ≤ k by omega)
      by_cases c2 : l.length ≤ i
      · have : there l i = none := by
          unfold there; rw [idx_nat, List.getElem?_eq_none c2]
        rw [if_pos (show (l.length : Int) ≤ (i : Int) by omega), this, m84_leaf_Get_K2, if_pos rfl]
      · have hi : i < l.length := by omega
        rw [if_neg (show ¬ (l.length : Int) ≤ (i : Int) by omega), m84_leaf_Get_K2, if_neg (by simp), idx_ok (l := l) hi, bind1_some, bind1_some, there, idx_ok hi]
        by_cases c : l[i].Used = true
        · simp only [c, if_true]
        · simp only [c, if_false]
          rfl
  · rw [if_pos h, if_pos h]

/-! ### Drop -/
def trim (l : List TSlot) : Nat → Nat
  | 0 => 0
  | i + 1 => match l[i]? with
    | some x => if x.Used = true then i + 1 else trim l i
    | none => trim l i
theorem trim_le (l : List TSlot) : ∀ i, trim l i ≤ i
  | 0 => by simp [trim]
  | i + 1 => by
    have := trim_le l i
    simp only [trim]
    split
    · split <;> omega
    · omega
theorem trim_succ {l : List TSlot} {i : Nat} (h : i < l.length) : trim l (i + 1) = if l[i].Used = true then i + 1 else trim l i := by simp [trim, h]
theorem dropLoop (l : List TSlot) (hl : l.length ≤ 1099511627776) : ∀ (i : Nat), i ≤ l.length → ∀ n, i < n →
    m85_leaf_Drop_L1 l n (i : Int) = some (⟨l.take (trim l i)⟩, 0) := by
  intro i
  have hk : ∀ q : Nat, q ≤ l.length → m85_leaf_Drop_K2 l (q : Int) = some (⟨l.take q⟩, 0) := by
    intro q hq
    rw [m85_leaf_Drop_K2, cut_ok (by omega) (by omega) (by omega), bind1_some]
    simp
  induction i with
  | zero =>
    intro hi n hn
    obtain ⟨n, rfl⟩ := dec n hn
    rw [m85_leaf_Drop_L1, m85_leaf_Drop_L1B, if_neg (by omega), hk 0 (by omega)]
    rfl
  | succ i ih =>
    intro hi n hn
    obtain ⟨n, rfl⟩ := dec n (by omega)
    rw [m85_leaf_Drop_L1, m85_leaf_Drop_L1B, if_pos (by omega), ipred _ (by omega) (by omega), bind1_some, show i + 1 - 1 = i from rfl, idx_ok (by omega), bind1_some, bind1_some, trim_succ (by omega), ih (by omega) n (by omega), hk (i + 1) hi]
    split <;> rfl
def less (l : List TSlot) (i : Nat) : List TSlot := (l.set i ⟨false, []⟩).take (trim (l.set i ⟨false, []⟩) l.length)
theorem drop_eq (l : List TSlot) (hS : Sz l) (k : Int) : m85_leaf_Drop ⟨l⟩ k = if err l ≠ 0 then some ((⟨[]⟩ : TLeaf), err l) else match there l k with
    | some x => some ((⟨less l k.toNat⟩ : TLeaf), (0 : Int))
    | none => some ((⟨[]⟩ : TLeaf), (6 : Int)) := by
  rw [m85_leaf_Drop, get_eq l hS]
  by_cases h : err l = 0
  · have h1 := err_fit h
    rw [if_neg (by simp [h]), if_neg (by simp [h])]
    match ht : there l k with
    | none => rfl
    | some x =>
      obtain ⟨i, rfl, hi, hx, hu⟩ := there_some ht
      rw [bind2_some, if_neg (by simp), m85_leaf_Drop_K1, copied_eq l (by omega), bind1_some, show (⟨l⟩ : TLeaf).Slots = l from rfl, idx_ok hi, bind1_some, upd_ok _ hi, bind1_some, dropLoop _ (by simp; omega) _ (Nat.le_refl _) big (by rw [big_eq]; simp; omega), List.length_set]
      rfl
  · rw [if_pos h, if_pos h, bind2_some, if_pos h]
end Go.Proofs.Ytfmgjigdebofaaa
