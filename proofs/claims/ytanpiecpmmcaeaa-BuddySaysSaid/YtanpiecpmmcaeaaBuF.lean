/-
  Package buddy: the free parts.
  Conditions: none.
-/
import Derived.Test.YtanpiecpmmcaeaaBuL
namespace Go.Proofs.Ytanpiecpmmcaeaa
open Go.S
set_option linter.unusedVariables false
set_option linter.unusedSimpArgs false
/-- Do they share a place? -/
def ovb (a : Int) (o : Nat) (x : TBlock) : Bool := decide (x.At < a + (2 ^ o : Nat)) && decide (a < x.At + sz x)
def ov (l : List TBlock) (a : Int) (o : Nat) : List TBlock := l.filter (ovb a o)
def fr : Nat → List TBlock → Int → List TBlock
  | 0, l, a => match ov l a 0 with
    | [] => [⟨a, 0⟩]
    | _ :: _ => []
  | o + 1, l, a => match ov l a (o + 1) with
    | [] => [⟨a, ((o + 1 : Nat) : Int)⟩]
    | x :: t => if ((o + 1 : Nat) : Int) ≤ x.Order then [] else fr o (x :: t) a ++ fr o (x :: t) (a + (2 ^ o : Nat))
theorem fr_len : ∀ (o : Nat) (l : List TBlock) (a : Int), (fr o l a).length ≤ 2 ^ o
  | 0, l, a => by
    unfold fr
    split <;> simp
  | o + 1, l, a => by
    have h1 := pw_pos o
    have h2 : 2 ^ (o + 1) = 2 ^ o + 2 ^ o := by rw [Nat.pow_succ]; omega
    unfold fr
    split
    · simp only [List.length_singleton]; omega
    · rename_i x t _
      split
      · simp
      · have h3 := fr_len o (x :: t) a
        have h4 := fr_len o (x :: t) (a + (2 ^ o : Nat))
        rw [List.length_append]; omega
theorem ov_ov {l : List TBlock} {a a' : Int} {o o' : Nat} (h1 : a' ≤ a) (h2 : a + (2 ^ o : Nat) ≤ a' + (2 ^ o' : Nat)) : ov (ov l a' o') a o = ov l a o := by
  unfold ov
  rw [List.filter_filter]
  refine List.filter_congr fun x _ => ?_
  unfold ovb
  by_cases c : decide (x.At < a + (2 ^ o : Nat)) && decide (a < x.At + sz x)
  · rw [c]
    simp only [Bool.and_eq_true, decide_eq_true_eq] at c ⊢
    exact ⟨trivial, by omega, by omega⟩
  · simp only [Bool.not_eq_true] at c
    rw [c]; rfl
theorem fr_ov {l : List TBlock} {a a' : Int} {o o' : Nat} (h1 : a' ≤ a) (h2 : a + (2 ^ o : Nat) ≤ a' + (2 ^ o' : Nat)) : fr o (ov l a' o') a = fr o l a := by
  cases o <;> (unfold fr; rw [ov_ov h1 h2])
/-- All are small. -/
def Sm (l : List TBlock) : Prop := l.length ≤ 2000 ∧ ∀ x ∈ l, (0 ≤ x.Order ∧ x.Order ≤ 10) ∧ 0 ≤ x.At ∧ x.At ≤ 2000
theorem Sm.ov {l : List TBlock} (h : Sm l) (a : Int) (o : Nat) : Sm (ov l a o) :=
  ⟨Nat.le_trans (List.length_filter_le _ _) h.1, fun x hx => h.2 x (List.mem_filter.1 hx).1⟩
theorem szS {x : TBlock} (h0 : 0 ≤ x.Order) (h1 : x.Order ≤ 10) : sz x ≤ 1024 := pw_le (show x.Order.toNat ≤ 10 by omega)
section
variable {l : List TBlock} {rec : List TBlock → Int → Int → Option (List TBlock)}
theorem filt_loop (hS : Sm l) {a : Int} {o : Nat} (ha : 0 ≤ a ∧ a ≤ 2000) (ho : o ≤ 10) : ∀ (r i : Nat), i + r = l.length → ∀ (acc : List TBlock) n, acc.length ≤ i → r < n →
    m17_buddy_free_L1 l (a + (2 ^ o : Nat)) a o rec n acc i = m17_buddy_free_K1 a o rec (acc ++ ov (l.drop i) a o) := by
  have hl := hS.1
  intro r
  induction r with
  | zero =>
    intro i hi acc n hac hn
    obtain ⟨n, rfl⟩ := dec n hn
    rw [m17_buddy_free_L1, m17_buddy_free_L1B, if_neg (by omega), List.drop_eq_nil_of_le (by omega)]
    simp [ov]
  | succ r ih =>
    intro i hi acc n hac hn
    obtain ⟨n, rfl⟩ := dec n (by omega)
    have h1 : i < l.length := by omega
    have hx := hS.2 l[i] (List.getElem_mem h1)
    have hz := szS hx.1.1 hx.1.2
    have hsh := shlO (B := 10) (by omega) hx.1.1 hx.1.2
    have hskip : ovb a o l[i] = false → m17_buddy_free_L1 l (a + (2 ^ o : Nat)) a o rec n acc ((i + 1 : Nat) : Int) = m17_buddy_free_K1 a o rec (acc ++ ov (l.drop i) a o) := by
      intro hb
      rw [ih (i + 1) (by omega) acc n (by omega) (by omega), drop_cons h1]
      unfold ov
      rw [List.filter_cons_of_neg (by rw [hb]; simp)]
    rw [m17_buddy_free_L1, m17_buddy_free_L1B, if_pos (by omega), idx_ok h1, bind1_some]
    by_cases c1 : l[i].At < a + (2 ^ o : Nat)
    · rw [if_pos c1, hsh, bind1_some, i64_ok (by omega) (by omega), bind1_some]
      by_cases c2 : a < l[i].At + (sz l[i] : Int)
      · rw [if_pos c2, app_ok (by simp only [List.length_singleton]; omega), bind1_some, isucc i (by omega), bind1_some, ih (i + 1) (by omega) _ n (by rw [List.length_append, List.length_singleton]; omega) (by omega), drop_cons h1]
        unfold ov
        rw [List.filter_cons_of_pos (by unfold ovb; simp only [Bool.and_eq_true, decide_eq_true_eq]; exact ⟨c1, c2⟩), List.append_assoc]
        rfl
      · rw [if_neg c2, isucc i (by omega), bind1_some]
        exact hskip (by unfold ovb; simp only [Bool.and_eq_false_iff, decide_eq_false_iff_not]; exact Or.inr c2)
    · rw [if_neg c1, isucc i (by omega), bind1_some]
      exact hskip (by unfold ovb; simp only [Bool.and_eq_false_iff, decide_eq_false_iff_not]; exact Or.inl c1)
end
theorem free_eq : ∀ (o : Nat), o ≤ 10 → ∀ (l : List TBlock) (a : Int), Sm l → 0 ≤ a → a + (2 ^ o : Nat) ≤ 1024 → ∀ n, o < n → m17_buddy_freeR n l a o = some (fr o l a)
  | 0, _, l, a, hS, ha, hae, n, hn => by
    obtain ⟨n, rfl⟩ := dec n hn
    have hs := shl1 (o := 0) (by omega)
    have he : (2 ^ 0 : Nat) = 1 := rfl
    rw [m17_buddy_freeR, m17_buddy_freeB, hs, bind1_some, i64_ok (by omega) (by omega), bind1_some, show (0 : Int) = ((0 : Nat) : Int) from rfl, filt_loop hS (o := 0) ⟨ha, by omega⟩ (by omega) l.length 0 (by omega) [] big (by simp) (lt_big (by have := hS.1; omega))]
    rw [m17_buddy_free_K1, List.nil_append, List.drop_zero]
    unfold fr
    cases h : ov l a 0 with
    | nil => rw [if_pos (by simp)]; rfl
    | cons x t =>
      have hx := (hS.ov a 0).2 x (by rw [h]; simp)
      rw [if_neg (by simp only [List.length_cons]; omega), show idx (x :: t) 0 = some x from rfl, bind1_some, if_pos (by omega)]
  | o + 1, ho, l, a, hS, ha, hae, n, hn => by
    obtain ⟨n, rfl⟩ := dec n (by omega)
    have hs := shl1 (o := o + 1) ho
    have hp := pw_pos o
    have h2 : 2 ^ (o + 1) = 2 ^ o + 2 ^ o := by rw [Nat.pow_succ]; omega
    have hpl := pw_le (o := o) (by omega)
    rw [m17_buddy_freeR, m17_buddy_freeB, hs, bind1_some, i64_ok (by omega) (by omega), bind1_some, show (0 : Int) = ((0 : Nat) : Int) from rfl, filt_loop hS (o := o + 1) ⟨ha, by omega⟩ ho l.length 0 (by omega) [] big (by simp) (lt_big (by have := hS.1; omega))]
    rw [m17_buddy_free_K1, List.nil_append, List.drop_zero]
    unfold fr
    cases h : ov l a (o + 1) with
    | nil => rw [if_pos (by simp)]
    | cons x t =>
      have hS' : Sm (x :: t) := by rw [← h]; exact hS.ov a (o + 1)
      rw [if_neg (by simp only [List.length_cons]; omega), show idx (x :: t) 0 = some x from rfl, bind1_some]
      simp only
      by_cases c : ((o + 1 : Nat) : Int) ≤ x.Order
      · rw [if_pos c, if_pos c]
      · have e1 : i64 (((o + 1 : Nat) : Int) - 1) = some (o : Int) := by rw [i64_ok (by omega) (by omega)]; congr 1; omega
        have g1 := fr_len o (x :: t) a
        have g2 := fr_len o (x :: t) (a + (2 ^ o : Nat))
        rw [if_neg c, if_neg c, m17_buddy_free_K2, e1, bind1_some, shl1 (by omega), bind1_some, bind1_some, free_eq o (by omega) (x :: t) a hS' ha (by omega) n (by omega), bind1_some, i64_ok (by omega) (by omega), bind1_some, bind1_some,
          free_eq o (by omega) (x :: t) (a + (2 ^ o : Nat)) hS' (by omega) (by omega) n (by omega), bind1_some, app_ok (by omega), bind1_some]
/-! ### What a right table covers -/
def cov (l : List TBlock) (p : Nat) : Prop := ∃ x ∈ l, x.At ≤ p ∧ (p : Int) < x.At + sz x
theorem ov_nil {l : List TBlock} {a o : Nat} : ov l a o = [] ↔ ∀ p : Nat, a ≤ p → p < a + 2 ^ o → ¬ cov l p := by
  unfold ov
  rw [List.filter_eq_nil_iff]
  constructor
  · rintro h p h1 h2 ⟨x, hx, h3, h4⟩
    refine h x hx ?_
    unfold ovb
    simp only [Bool.and_eq_true, decide_eq_true_eq]
    omega
  · intro h x hx hb
    unfold ovb at hb
    simp only [Bool.and_eq_true, decide_eq_true_eq] at hb
    have hz := sz_pos x
    have hp := pw_pos o
    by_cases c : x.At ≤ (a : Int)
    · exact h a (by omega) (by omega) ⟨x, hx, c, hb.2⟩
    · obtain ⟨q, hq⟩ := Int.eq_ofNat_of_zero_le (show 0 ≤ x.At by omega)
      exact h q (by omega) (by omega) ⟨x, hx, by omega, by omega⟩
theorem ok_mem {B : Nat} : ∀ {e : Int} {l : List TBlock}, 0 ≤ e → Okb B e l → ∀ x ∈ l, (0 ≤ x.Order ∧ x.Order ≤ B) ∧ e ≤ x.At ∧ x.At % (sz x : Int) = 0 ∧ x.At + sz x ≤ (2 ^ B : Nat)
  | e, [], _, _, x, hx => by simp at hx
  | e, y :: l, he, h, x, hx => by
    have hz := sz_pos y
    rcases List.mem_cons.1 hx with rfl | hx
    · exact ⟨h.1, h.2.1, h.2.2.1, h.2.2.2.1⟩
    · have h1 := h.2.1
      have := ok_mem (by omega) h.2.2.2.2 x hx
      exact ⟨this.1, by omega, this.2.2⟩
theorem ok_len {B : Nat} : ∀ {e : Int} {l : List TBlock}, 0 ≤ e → Okb B e l → e ≤ (2 ^ B : Nat) → e + l.length ≤ (2 ^ B : Nat)
  | e, [], _, _, h => by simpa using h
  | e, y :: l, he, h, _ => by
    have hz := sz_pos y
    have h1 := h.2.1
    have := ok_len (by omega) h.2.2.2.2 h.2.2.2.1
    rw [List.length_cons]
    omega
theorem ok_small {B : Nat} {l : List TBlock} (hB : B ≤ 10) (h : Okb B 0 l) : Sm l := by
  have hp := pw_le hB
  have hp0 := pw_pos B
  have h1 := ok_len (Int.le_refl 0) h (by omega)
  refine ⟨by omega, fun x hx => ?_⟩
  have := ok_mem (Int.le_refl 0) h x hx
  have hz := sz_pos x
  exact ⟨⟨this.1.1, by omega⟩, this.2.1, by omega⟩
end Go.Proofs.Ytanpiecpmmcaeaa
