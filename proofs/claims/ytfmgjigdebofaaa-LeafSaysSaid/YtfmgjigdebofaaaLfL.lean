/-
  Package leaf: what the models say.
  Conditions: none.
-/
import Derived.Test.YtfmgjigdebofaaaLfC
namespace Go.Proofs.Ytfmgjigdebofaaa
open Go.S
set_option linter.unusedVariables false
set_option linter.unusedSimpArgs false
theorem dec (n : Nat) (h : 0 < n) : ∃ q, n = q + 1 := ⟨n - 1, by omega⟩
theorem isucc (i : Nat) (h : i < 9223372036854775807) : i64 ((i : Int) + 1) = some ((i + 1 : Nat) : Int) := by rw [i64_ok (by omega) (by omega)]; rfl
theorem ipred (i : Nat) (h : 0 < i) (h2 : i < 9223372036854775807) : i64 ((i : Int) - 1) = some ((i - 1 : Nat) : Int) := by rw [i64_ok (by omega) (by omega)]; congr 1; omega
theorem bigPos : ∃ q, big = q + 1 := ⟨_, rfl⟩

/-! ### A page's bytes -/
def Sz (l : List TSlot) : Prop := ∀ x ∈ l, x.Text.length ≤ 140737488355328
def slotT (x : TSlot) : List UInt8 := if x.Used = true then enc 10 (x.Text.length + 1) ++ x.Text else [0]
def body : List TSlot → List UInt8
  | [] => []
  | x :: l => slotT x ++ body l
def leafT (l : List TSlot) : List UInt8 := enc 10 l.length ++ body l
theorem body_append : ∀ (a b : List TSlot), body (a ++ b) = body a ++ body b
  | [], b => rfl
  | x :: a, b => by simp [body, body_append a b]
theorem slotT_len (x : TSlot) (h : x.Text.length ≤ 140737488355328) : (slotT x).length ≤ 140737488355338 := by
  unfold slotT
  split
  · have := enc_len 10 (x.Text.length + 1)
    rw [List.length_append]; omega
  · simp
theorem body_len : ∀ (l : List TSlot), Sz l → (body l).length ≤ l.length * 140737488355338
  | [], _ => by simp [body]
  | x :: l, h => by
    have h1 := body_len l (fun y hy => h y (by simp [hy]))
    have h2 := slotT_len x (h x (by simp))
    simp only [body, List.length_append, List.length_cons, Nat.add_mul]
    omega
theorem body_mem : ∀ (l : List TSlot) (x : TSlot), x ∈ l → (slotT x).length ≤ (body l).length
  | y :: l, x, h => by
    simp only [body, List.length_append]
    rcases List.mem_cons.1 h with rfl | h
    · omega
    · have := body_mem l x h; omega
theorem slotT_ge (x : TSlot) (h : x.Used = true) : x.Text.length ≤ (slotT x).length := by
  unfold slotT
  rw [if_pos h, List.length_append]; omega
theorem Sz.drop {l : List TSlot} (h : Sz l) (i : Nat) : Sz (l.drop i) := fun x hx => h x (List.mem_of_mem_drop hx)
theorem Sz.get {l : List TSlot} (h : Sz l) {i : Nat} (hi : i < l.length) : l[i].Text.length ≤ 140737488355328 := h _ (List.getElem_mem hi)
theorem drop_cons {l : List TSlot} {i : Nat} (hi : i < l.length) : l.drop i = l[i] :: l.drop (i + 1) := List.drop_eq_getElem_cons hi
theorem leafT_len (l : List TSlot) (h : Sz l) (hl : l.length ≤ 41) : (leafT l).length ≤ 5910974510925000 := by
  have h1 := body_len l h
  have h2 := enc_len 10 l.length
  have h3 : l.length * 140737488355338 ≤ 41 * 140737488355338 := Nat.mul_le_mul_right _ hl
  unfold leafT
  rw [List.length_append]; omega
theorem wrapLen (n : Nat) (h : n < 18446744073709551616) : IntKind.wrap .u64 (n : Int) = (n : Int) := by rw [wrapU64]; omega

/-- The bytes, slot behind slot: the document. -/
theorem refText (l : List TSlot) (hS : Sz l) (hl : l.length ≤ 41) : ∀ (r i : Nat), i + r = l.length → ∀ (g : List UInt8), g.length + r * 140737488355338 ≤ 6000000000000000 → ∀ n, r < n →
    m91_quirref_LeafText_L1 ⟨l⟩ n g (i : Int) = some (g ++ body (l.drop i)) := by
  intro r
  induction r with
  | zero =>
    intro i hi g hg n hn
    obtain ⟨n, rfl⟩ := dec n hn
    rw [m91_quirref_LeafText_L1, m91_quirref_LeafText_L1B, if_neg (show ¬ (i : Int) < (l.length : Int) by omega), m91_quirref_LeafText_K1, List.drop_eq_nil_of_le (by omega)]
    simp [body]
  | succ r ih =>
    intro i hi g hg n hn
    obtain ⟨n, rfl⟩ := dec n (by omega)
    have h1 : i < l.length := by omega
    have hz := hS.get h1
    have hz2 := slotT_len _ hz
    rw [Nat.add_mul] at hg
    have hst : ∀ T, slotT l[i] = T → (g ++ T).length + r * 140737488355338 ≤ 6000000000000000 := by
      intro T hT; rw [hT] at hz2; rw [List.length_append]; omega
    rw [m91_quirref_LeafText_L1, m91_quirref_LeafText_L1B, if_pos (show (i : Int) < (l.length : Int) by omega), idx_ok (l := l) h1, bind1_some, drop_cons h1, body, isucc i (by omega)]
    by_cases c : l[i].Used = true
    · have e : slotT l[i] = enc 10 (l[i].Text.length + 1) ++ l[i].Text := if_pos c
      have hel := enc_len 10 (l[i].Text.length + 1)
      rw [if_pos c, wrapLen _ (by omega), show ((l[i].Text.length : Int) + 1) = ((l[i].Text.length + 1 : Nat) : Int) by omega, wrapLen _ (by omega), refNat _ (by omega), bind1_some, catS_ok (by omega), bind1_some, ← e, catS_ok (by omega), bind1_some, bind1_some, ih (i + 1) (by omega) _ (hst _ rfl) n (by omega), List.append_assoc]
    · have e : slotT l[i] = [0] := if_neg c
      rw [if_neg c, ← e, catS_ok (by omega), bind1_some, bind1_some, ih (i + 1) (by omega) _ (hst _ rfl) n (by omega), List.append_assoc]
theorem refText_eq (l : List TSlot) (hS : Sz l) (hl : l.length ≤ 41) : m91_quirref_LeafText ⟨l⟩ = some (leafT l) := by
  have he := enc_len 10 l.length
  have h3 : l.length * 140737488355338 ≤ 41 * 140737488355338 := Nat.mul_le_mul_right _ hl
  rw [m91_quirref_LeafText, show (⟨l⟩ : TLeaf).Slots = l from rfl, wrapLen _ (by omega), refNat _ (by omega), bind1_some]
  exact refText l hS hl l.length 0 (by omega) _ (by omega) big (by rw [big_eq]; omega)
/-- The same by the program. -/
theorem ownText (l : List TSlot) (hS : Sz l) (hl : l.length ≤ 41) : ∀ (r i : Nat), i + r = l.length → ∀ (g : List UInt8), g.length + r * 140737488355338 ≤ 6000000000000000 → ∀ n, r < n →
    m86_leaf_Text_L1 ⟨l⟩ n g (i : Int) = some (g ++ body (l.drop i), 0) := by
  intro r
  induction r with
  | zero =>
    intro i hi g hg n hn
    obtain ⟨n, rfl⟩ := dec n hn
    rw [m86_leaf_Text_L1, m86_leaf_Text_L1B, if_neg (show ¬ (i : Int) < (l.length : Int) by omega), m86_leaf_Text_K2, List.drop_eq_nil_of_le (by omega)]
    simp [body]
  | succ r ih =>
    intro i hi g hg n hn
    obtain ⟨n, rfl⟩ := dec n (by omega)
    have h1 : i < l.length := by omega
    have hz := hS.get h1
    have hz2 := slotT_len _ hz
    rw [Nat.add_mul] at hg
    have hst : ∀ T, slotT l[i] = T → (g ++ T).length + r * 140737488355338 ≤ 6000000000000000 := by
      intro T hT; rw [hT] at hz2; rw [List.length_append]; omega
    rw [m86_leaf_Text_L1, m86_leaf_Text_L1B, if_pos (show (i : Int) < (l.length : Int) by omega), idx_ok (l := l) h1, bind1_some, drop_cons h1, body, isucc i (by omega)]
    by_cases c : l[i].Used = true
    · have e : slotT l[i] = enc 10 (l[i].Text.length + 1) ++ l[i].Text := if_pos c
      have hel := enc_len 10 (l[i].Text.length + 1)
      rw [if_pos c, isucc _ (by omega), bind1_some, wrapLen _ (by omega), putNat _ (by omega), bind1_some, catS_ok (by omega), bind1_some, ← e, catS_ok (by omega), bind1_some, bind1_some, ih (i + 1) (by omega) _ (hst _ rfl) n (by omega), List.append_assoc]
    · have e : slotT l[i] = [0] := if_neg c
      have e0 : m35_code_PutNat 0 = some [0] := putNat 0 (by decide)
      rw [if_neg c, e0, bind1_some, ← e, catS_ok (by omega), bind1_some, bind1_some, ih (i + 1) (by omega) _ (hst _ rfl) n (by omega), List.append_assoc]
theorem ownText_eq (l : List TSlot) (hS : Sz l) (hl : l.length ≤ 41) : m86_leaf_Text_K1 ⟨l⟩ = some (leafT l, 0) := by
  have he := enc_len 10 l.length
  have h3 : l.length * 140737488355338 ≤ 41 * 140737488355338 := Nat.mul_le_mul_right _ hl
  rw [m86_leaf_Text_K1, show (⟨l⟩ : TLeaf).Slots = l from rfl, wrapLen _ (by omega), putNat _ (by omega), bind1_some]
  exact ownText l hS hl l.length 0 (by omega) _ (by omega) big (by rw [big_eq]; omega)
/-- Their number. -/
theorem slotSize_eq (x : TSlot) (h : x.Text.length ≤ 140737488355328) : m152_leaf_slotSize x = some (((slotT x).length : Nat) : Int) := by
  have hel := enc_len 10 (x.Text.length + 1)
  rw [m152_leaf_slotSize]
  unfold slotT
  by_cases c : x.Used = true
  · rw [if_pos c, if_pos c, isucc _ (by omega), bind1_some, wrapLen _ (by omega), putNat _ (by omega), bind1_some, i64_ok (by omega) (by omega), bind1_some, List.length_append]
    congr 1
  · rw [if_neg c, if_neg c]; rfl
theorem sizeLoop (l : List TSlot) (hS : Sz l) (hl : l.length ≤ 41) : ∀ (r i : Nat), i + r = l.length → ∀ (g : Nat), g + r * 140737488355338 ≤ 6000000000000000 → ∀ n, r < n →
    m136_leaf_size_L1 ⟨l⟩ n (g : Int) (i : Int) = some ((g + (body (l.drop i)).length : Nat) : Int) := by
  intro r
  induction r with
  | zero =>
    intro i hi g hg n hn
    obtain ⟨n, rfl⟩ := dec n hn
    rw [m136_leaf_size_L1, m136_leaf_size_L1B, if_neg (show ¬ (i : Int) < (l.length : Int) by omega), m136_leaf_size_K1, List.drop_eq_nil_of_le (by omega)]
    simp [body]
  | succ r ih =>
    intro i hi g hg n hn
    obtain ⟨n, rfl⟩ := dec n (by omega)
    have h1 : i < l.length := by omega
    have hz := hS.get h1
    have hz2 := slotT_len _ hz
    rw [Nat.add_mul] at hg
    rw [m136_leaf_size_L1, m136_leaf_size_L1B, if_pos (show (i : Int) < (l.length : Int) by omega), idx_ok (l := l) h1, bind1_some, slotSize_eq _ hz, bind1_some, i64_ok (by omega) (by omega), bind1_some, isucc i (by omega), bind1_some, show ((g : Int) + ((slotT l[i]).length : Nat)) = ((g + (slotT l[i]).length : Nat) : Int) by push_cast; rfl, ih (i + 1) (by omega) _ (by omega) n (by omega), drop_cons h1, body, List.length_append, Nat.add_assoc]
theorem size_eq (l : List TSlot) (hS : Sz l) (hl : l.length ≤ 41) : m136_leaf_size ⟨l⟩ = some (((leafT l).length : Nat) : Int) := by
  have he := enc_len 10 l.length
  have h3 : l.length * 140737488355338 ≤ 41 * 140737488355338 := Nat.mul_le_mul_right _ hl
  rw [m136_leaf_size, show (⟨l⟩ : TLeaf).Slots = l from rfl, wrapLen _ (by omega), putNat _ (by omega), bind1_some]
  have := sizeLoop l hS hl l.length 0 (by omega) (enc 10 l.length).length (by omega) big (by rw [big_eq]; omega)
  rw [List.drop_zero] at this
  unfold leafT
  rw [List.length_append]
  exact this

/-! ### Which pages are in order -/
def badS (x : TSlot) : Bool := !x.Used && decide (x.Text ≠ [])
def lastBad (l : List TSlot) : Bool := match l[l.length - 1]? with
  | some x => !x.Used
  | none => false
def err (l : List TSlot) : Int := if 40 < l.length then 2 else if (l.any badS || lastBad l) = true then 4 else if 512 < (leafT l).length then 8 else 0
theorem lastBad_at {l : List TSlot} {i : Nat} (h : i + 1 = l.length) : lastBad l = !(l[i]'(by omega)).Used := by
  unfold lastBad
  have e : l[l.length - 1]? = some (l[i]'(by omega)) := by
    rw [List.getElem?_eq_getElem (by omega)]
    congr 1
    congr 1
    omega
  rw [e]
theorem checkLoop (l : List TSlot) (hl : l.length ≤ 40) : ∀ (r i : Nat), i + r = l.length → ∀ n, r < n →
    m90_leaf_Check_L1 ⟨l⟩ n (i : Int) = if (l.drop i).any badS = true then some 4 else m90_leaf_Check_K2 ⟨l⟩ := by
  intro r
  induction r with
  | zero =>
    intro i hi n hn
    obtain ⟨n, rfl⟩ := dec n hn
    rw [m90_leaf_Check_L1, m90_leaf_Check_L1B, if_neg (show ¬ (i : Int) < (l.length : Int) by omega), List.drop_eq_nil_of_le (by omega)]
    simp
  | succ r ih =>
    intro i hi n hn
    obtain ⟨n, rfl⟩ := dec n (by omega)
    have h1 : i < l.length := by omega
    rw [m90_leaf_Check_L1, m90_leaf_Check_L1B, if_pos (show (i : Int) < (l.length : Int) by omega), idx_ok (l := l) h1, bind1_some, isucc i (by omega), bind1_some, ih (i + 1) (by omega) n (by omega), drop_cons h1, List.any_cons]
    by_cases c : l[i].Used = true
    · rw [if_pos c]; simp [badS, c]
    · rw [if_neg c]
      by_cases c2 : l[i].Text = []
      · rw [if_neg (by simp [c2])]; simp [badS, c2]
      · rw [if_pos c2]; simp [badS, c, c2]
theorem refCheckLoop (l : List TSlot) (hl : l.length ≤ 40) : ∀ (r i : Nat), i + r = l.length → ∀ n, r < n →
    m81_quirref_LeafErr_L1 ⟨l⟩ n (i : Int) = if ((l.drop i).any badS || (decide (i < l.length) && lastBad l)) = true then some 4 else m81_quirref_LeafErr_K2 ⟨l⟩ := by
  intro r
  induction r with
  | zero =>
    intro i hi n hn
    obtain ⟨n, rfl⟩ := dec n hn
    rw [m81_quirref_LeafErr_L1, m81_quirref_LeafErr_L1B, if_neg (show ¬ (i : Int) < (l.length : Int) by omega), List.drop_eq_nil_of_le (by omega)]
    simp [show ¬ i < l.length by omega]
  | succ r ih =>
    intro i hi n hn
    obtain ⟨n, rfl⟩ := dec n (by omega)
    have h1 : i < l.length := by omega
    rw [m81_quirref_LeafErr_L1, m81_quirref_LeafErr_L1B, if_pos (show (i : Int) < (l.length : Int) by omega), idx_ok (l := l) h1, bind1_some, isucc i (by omega), bind1_some, show (⟨l⟩ : TLeaf).Slots = l from rfl, ipred _ (by omega) (by omega), bind1_some, ih (i + 1) (by omega) n (by omega), drop_cons h1, List.any_cons]
    have hd : decide (i < l.length) = true := by simp [h1]
    rw [hd, Bool.true_and]
    by_cases c : l[i].Used = true
    · rw [if_pos c]
      have hb : badS l[i] = false := by simp [badS, c]
      rw [hb, Bool.false_or]
      by_cases c3 : i + 1 = l.length
      · have : lastBad l = false := by rw [lastBad_at c3]; simp [c]
        simp [this]
      · have : decide (i + 1 < l.length) = true := by simp; omega
        rw [this, Bool.true_and]
    · rw [if_neg c]
      by_cases c2 : l[i].Text = []
      · rw [if_neg (by simp [c2])]
        have hb : badS l[i] = false := by simp [badS, c2]
        rw [hb, Bool.false_or]
        by_cases c3 : i + 1 = l.length
        · have : lastBad l = true := by rw [lastBad_at c3]; simp [c]
          rw [if_pos (by omega), this]; simp
        · have : decide (i + 1 < l.length) = true := by simp; omega
          rw [if_neg (by omega), this, Bool.true_and]
      · rw [if_pos c2]; simp [badS, c, c2]
theorem check_eq (l : List TSlot) (hS : Sz l) : m90_leaf_Check ⟨l⟩ = some (err l) := by
  rw [m90_leaf_Check, err]
  by_cases h1 : 40 < l.length
  · rw [if_pos (show (40 : Int) < (l.length : Int) by omega), if_pos h1]
  rw [if_neg (show ¬ (40 : Int) < (l.length : Int) by omega), if_neg h1, m90_leaf_Check_K1]
  have := checkLoop l (by omega) l.length 0 (by omega) big (by rw [big_eq]; omega)
  rw [show ((0 : Nat) : Int) = 0 from rfl, List.drop_zero] at this
  rw [this]
  by_cases h2 : l.any badS = true
  · rw [if_pos h2, if_pos (by rw [h2]; rfl)]
  rw [if_neg h2, m90_leaf_Check_K2]
  have hK : m90_leaf_Check_K3 ⟨l⟩ = if 512 < (leafT l).length then some 8 else some 0 := by
    rw [m90_leaf_Check_K3, size_eq l hS (by omega), bind1_some]
    by_cases h3 : 512 < (leafT l).length
    · rw [if_pos (by omega), if_pos h3]
    · rw [if_neg (by omega), if_neg h3]
  rw [hK]
  rw [Bool.not_eq_true] at h2
  rw [h2, Bool.false_or]
  by_cases h3 : 0 < l.length
  · have h4 : l.length - 1 < l.length := by omega
    rw [if_pos (show (0 : Int) < (l.length : Int) by omega), show (⟨l⟩ : TLeaf).Slots = l from rfl, ipred _ h3 (by omega), bind1_some, idx_ok h4, bind1_some, lastBad_at (i := l.length - 1) (by omega)]
    by_cases c : l[l.length - 1].Used = true
    · rw [if_pos c, c]; simp; split <;> rfl
    · rw [if_neg c]; simp [c]
  · have e : l = [] := List.eq_nil_of_length_eq_zero (by omega)
    subst e
    decide
theorem refCheck_eq (l : List TSlot) (hS : Sz l) : m81_quirref_LeafErr ⟨l⟩ = some (err l) := by
  rw [m81_quirref_LeafErr, err]
  by_cases h1 : 40 < l.length
  · rw [if_pos (show (40 : Int) < (l.length : Int) by omega), if_pos h1]
  rw [if_neg (show ¬ (40 : Int) < (l.length : Int) by omega), if_neg h1, m81_quirref_LeafErr_K1]
  have := refCheckLoop l (by omega) l.length 0 (by omega) big (by rw [big_eq]; omega)
  rw [show ((0 : Nat) : Int) = 0 from rfl, List.drop_zero] at this
  rw [this]
  have e : (decide (0 < l.length) && lastBad l) = lastBad l := by
    by_cases h : 0 < l.length
    · simp [h]
    · have e : l = [] := List.eq_nil_of_length_eq_zero (by omega)
      subst e; rfl
  rw [e, m81_quirref_LeafErr_K2, refText_eq l hS (by omega), bind1_some]
  split
  · rfl
  · by_cases h3 : 512 < (leafT l).length
    · rw [if_pos (by omega), if_pos h3]
    · rw [if_neg (by omega), if_neg h3]
end Go.Proofs.Ytfmgjigdebofaaa
