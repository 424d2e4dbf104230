/-
  Package buddy: which tables are right.
  Conditions: none.
-/
import Derived.Test.YtanpiecpmmcaeaaBuO
namespace Go.Proofs.Ytanpiecpmmcaeaa
open Go.S
set_option linter.unusedVariables false
set_option linter.unusedSimpArgs false
theorem pw_pos (o : Nat) : 1 ≤ 2 ^ o := Nat.one_le_two_pow
theorem pw_le {o : Nat} (h : o ≤ 10) : 2 ^ o ≤ 1024 := Nat.pow_le_pow_right (by omega) h
theorem shl_nat {v j : Nat} (hj : j ≤ 60) (h : v * 2 ^ j ≤ 9223372036854775807) : shlW .i64 (v : Int) (j : Int) = some ((v * 2 ^ j : Nat) : Int) := by
  unfold shlW
  have hb : (0 : Int) ≤ (j : Int) ∧ (j : Int) ≤ (IntKind.bits .i64 : Int) := ⟨by omega, by simp [IntKind.bits]; omega⟩
  rw [if_pos hb, Int.toNat_natCast]
  have e : (v : Int) * 2 ^ j = ((v * 2 ^ j : Nat) : Int) := by push_cast; rfl
  rw [e, wrapI64 (by omega) (by omega)]
theorem shr_nat {v j : Nat} (hj : j ≤ 60) (h : v ≤ 9223372036854775807) : shrW .i64 (v : Int) (j : Int) = some ((v / 2 ^ j : Nat) : Int) := by
  unfold shrW
  have hb : (0 : Int) ≤ (j : Int) ∧ (j : Int) ≤ (IntKind.bits .i64 : Int) := ⟨by omega, by simp [IntKind.bits]; omega⟩
  rw [if_pos hb, Int.toNat_natCast]
  have e : (v : Int) / 2 ^ j = ((v / 2 ^ j : Nat) : Int) := by push_cast; rfl
  rw [e]
theorem shl1 {o : Nat} (h : o ≤ 10) : shlW .i64 1 (o : Int) = some ((2 ^ o : Nat) : Int) := by
  have h1 := pw_le h
  have := shl_nat (v := 1) (j := o) (by omega) (by omega)
  rw [Nat.one_mul] at this
  exact this
/-- How many places a block has. -/
def sz (x : TBlock) : Nat := 2 ^ x.Order.toNat
theorem sz_pos (x : TBlock) : 1 ≤ sz x := pw_pos _
theorem shlO {x : TBlock} {B : Nat} (hB : B ≤ 10) (h0 : 0 ≤ x.Order) (h1 : x.Order ≤ B) : shlW .i64 1 x.Order = some (sz x : Int) := by
  have e : x.Order = (x.Order.toNat : Int) := by omega
  have := shl1 (o := x.Order.toNat) (by omega)
  rw [← e] at this
  exact this
/-- Right from a place on. -/
def Okb (B : Nat) : Int → List TBlock → Prop
  | _, [] => True
  | e, x :: l => (0 ≤ x.Order ∧ x.Order ≤ B) ∧ e ≤ x.At ∧ x.At % (sz x : Int) = 0 ∧ x.At + sz x ≤ (2 ^ B : Nat) ∧ Okb B (x.At + sz x) l
instance (B : Nat) : ∀ (e : Int) (l : List TBlock), Decidable (Okb B e l)
  | _, [] => inferInstanceAs (Decidable True)
  | e, x :: l => by
    have := instDecidableOkb B (x.At + sz x) l
    unfold Okb
    infer_instance
theorem tmod_emod {a b : Int} (h : 0 ≤ a) : a.tmod b = a % b := Int.tmod_eq_emod_of_nonneg h
section
variable {B : Nat} {b : TBuddy}
theorem check_loop (hB : B ≤ 10) (hb : b.Order = B) (hl : b.Taken.length ≤ 9223372036854775807) : ∀ (r i : Nat), i + r = b.Taken.length → ∀ (e : Int) n, 0 ≤ e → r < n → m8_buddy_Check_L1 b n e i = some (if Okb B e (b.Taken.drop i) then 0 else 4) := by
  have hpB := pw_le hB
  have hp0 := pw_pos B
  intro r
  induction r with
  | zero =>
    intro i hi e n he hn
    obtain ⟨n, rfl⟩ := dec n hn
    rw [m8_buddy_Check_L1, m8_buddy_Check_L1B, if_neg (by omega), List.drop_eq_nil_of_le (by omega), if_pos (by trivial)]
    rfl
  | succ r ih =>
    intro i hi e n he hn
    obtain ⟨n, rfl⟩ := dec n (by omega)
    have h1 : i < b.Taken.length := by omega
    rw [m8_buddy_Check_L1, m8_buddy_Check_L1B, if_pos (by omega), idx_ok h1, bind1_some, drop_cons h1, hb]
    generalize b.Taken[i] = x
    by_cases c1 : x.Order < 0
    · rw [if_pos c1, m8_buddy_Check_K3, if_pos rfl, if_neg (fun h => by have := h.1.1; omega)]
    by_cases c2 : (B : Int) < x.Order
    · rw [if_neg c1, if_pos c2, m8_buddy_Check_K3, if_pos rfl, if_neg (fun h => by have := h.1.2; omega)]
    have hsh := shlO hB (x := x) (by omega) (by omega)
    have hzp := sz_pos x
    have hzl : sz x ≤ 1024 := Nat.le_trans (Nat.pow_le_pow_right (by omega) (show x.Order.toNat ≤ 10 by omega)) (by omega)
    rw [if_neg c1, if_neg c2, m8_buddy_Check_K3, if_neg ff]
    by_cases c3 : x.At < e
    · rw [if_pos c3, m8_buddy_Check_K4, if_pos rfl, if_neg (fun h => by have := h.2.1; omega)]
    rw [if_neg c3, hsh, bind1_some]
    unfold modW
    rw [if_pos (by omega), bind1_some, tmod_emod (by omega)]
    by_cases c4 : x.At % (sz x : Int) ≠ 0
    · rw [if_pos c4, m8_buddy_Check_K4, if_pos rfl, if_neg (fun h => c4 h.2.2.1)]
    have hsB := shl1 hB
    rw [if_neg c4, m8_buddy_Check_K4, if_neg ff, hb, hsB, bind1_some, hsh, bind1_some, i64_ok (by omega) (by omega), bind1_some]
    by_cases c5 : ((2 ^ B : Nat) : Int) - (sz x : Int) < x.At
    · rw [if_pos c5, if_neg (fun h => by have := h.2.2.2.1; omega)]
    · rw [if_neg c5, bind1_some, i64_ok (by omega) (by omega), bind1_some, isucc i (by omega), bind1_some, ih (i + 1) (by omega) _ n (by omega) (by omega)]
      by_cases c6 : Okb B (x.At + sz x) (b.Taken.drop (i + 1))
      · rw [if_pos c6, if_pos ⟨⟨by omega, by omega⟩, by omega, by simpa using c4, by omega, c6⟩]
      · rw [if_neg c6, if_neg (fun h => c6 h.2.2.2.2)]
/-- The document's marks. -/
structure Mk (B : Nat) (arr : List Int) (lst e : Int) : Prop where
  len : arr.length = 2 ^ B
  ne : lst < e
  e0 : 0 ≤ e
  free : ∀ p : Nat, p < 2 ^ B → e ≤ p → arr[p]? = some 0
  full : ∀ p : Nat, p < 2 ^ B → lst ≤ p → (p : Int) < e → arr[p]? = some 1
theorem dvd_add_le {a s t : Nat} (h1 : s ∣ a) (h2 : s ∣ t) (h : a < t) : a + s ≤ t := by
  obtain ⟨i, rfl⟩ := h1
  obtain ⟨j, rfl⟩ := h2
  have : i < j := Nat.lt_of_mul_lt_mul_left h
  have h3 : s * (i + 1) ≤ s * j := Nat.mul_le_mul_left s this
  rw [Nat.mul_add, Nat.mul_one] at h3
  exact h3
theorem sz_dvd {x : TBlock} (h1 : x.Order ≤ B) : sz x ∣ 2 ^ B := by
  unfold sz
  exact Nat.pow_dvd_pow 2 (by omega)
theorem mark_loop {x : TBlock} {i : Nat} {go1 : List Int → Int → Int → Option Int} (hx0 : 0 ≤ x.At) (hxB : x.At + sz x ≤ (2 ^ B : Nat)) (hB : B ≤ 10) : ∀ (r q : Nat) (arr : List Int), q + r = sz x → arr.length = 2 ^ B → (∀ p : Nat, p < 2 ^ B → x.At + q ≤ p → arr[p]? = some 0) → (∀ p : Nat, p < 2 ^ B → x.At ≤ p → (p : Int) < x.At + q → arr[p]? = some 1) → ∀ n, r < n →
    ∃ arr' : List Int, Mk B arr' x.At (x.At + sz x) ∧ m4_quirref_BuddyErr_L2 (sz x) x i go1 n arr q = m4_quirref_BuddyErr_K5 i go1 x arr' := by
  have hpB := pw_le hB
  have hp0 := pw_pos B
  intro r
  induction r with
  | zero =>
    intro q arr hq hl h1 h2 n hn
    obtain ⟨n, rfl⟩ := dec n hn
    have hz := sz_pos x
    refine ⟨arr, ⟨hl, by omega, by omega, fun p hp h => h1 p hp (by omega), fun p hp ha hb => h2 p hp ha (by omega)⟩, ?_⟩
    rw [m4_quirref_BuddyErr_L2, m4_quirref_BuddyErr_L2B, if_neg (by omega)]
  | succ r ih =>
    intro q arr hq hl h1 h2 n hn
    obtain ⟨n, rfl⟩ := dec n (by omega)
    obtain ⟨a, ha⟩ := Int.eq_ofNat_of_zero_le hx0
    have hlt : a + q < arr.length := by omega
    have e1 : x.At + (q : Int) = ((a + q : Nat) : Int) := by omega
    have h3 := h1 (a + q) (by omega) (by omega)
    rw [List.getElem?_eq_getElem hlt] at h3
    have h4 : arr[a + q] = 0 := Option.some.inj h3
    rw [m4_quirref_BuddyErr_L2, m4_quirref_BuddyErr_L2B, if_pos (by omega), e1, i64_ok (by omega) (by omega), bind1_some, idx_ok hlt, bind1_some, h4, if_neg (by omega), bind1_some, idx_ok hlt, bind1_some, upd_ok _ hlt, bind1_some, isucc q (by omega), bind1_some]
    refine ih (q + 1) (arr.set (a + q) 1) (by omega) (by rw [List.length_set]; exact hl) (fun p hp h => ?_) (fun p hp h5 h6 => ?_) n (by omega)
    · rw [List.getElem?_set_ne (by omega)]
      exact h1 p hp (by omega)
    · by_cases hpq : a + q = p
      · subst hpq
        rw [List.getElem?_set_self (by omega)]
      · rw [List.getElem?_set_ne hpq]
        exact h2 p hp h5 (by omega)
theorem err_loop (hB : B ≤ 10) (hb : b.Order = B) (hl : b.Taken.length ≤ 9223372036854775807) : ∀ (r i : Nat), i + r = b.Taken.length → ∀ (arr : List Int) (lst e : Int) n, Mk B arr lst e → r < n → m4_quirref_BuddyErr_L1 b (2 ^ B : Nat) n arr lst i = some (if Okb B e (b.Taken.drop i) then 0 else 4) := by
  have hpB := pw_le hB
  have hp0 := pw_pos B
  intro r
  induction r with
  | zero =>
    intro i hi arr lst e n hM hn
    obtain ⟨n, rfl⟩ := dec n hn
    rw [m4_quirref_BuddyErr_L1, m4_quirref_BuddyErr_L1B, if_neg (by omega), List.drop_eq_nil_of_le (by omega), if_pos (by trivial)]
    rfl
  | succ r ih =>
    intro i hi arr lst e n hM hn
    obtain ⟨n, rfl⟩ := dec n (by omega)
    have h1 : i < b.Taken.length := by omega
    have he := hM.e0
    have hle := hM.ne
    rw [m4_quirref_BuddyErr_L1, m4_quirref_BuddyErr_L1B, if_pos (by omega), idx_ok h1, bind1_some, drop_cons h1, hb]
    generalize b.Taken[i] = x
    by_cases c1 : x.Order < 0
    · rw [if_pos c1, m4_quirref_BuddyErr_K6, if_pos rfl, if_neg (fun h => by have := h.1.1; omega)]
    by_cases c2 : (B : Int) < x.Order
    · rw [if_neg c1, if_pos c2, m4_quirref_BuddyErr_K6, if_pos rfl, if_neg (fun h => by have := h.1.2; omega)]
    have hsh := shlO hB (x := x) (by omega) (by omega)
    have hzp := sz_pos x
    have hzl : sz x ≤ 1024 := Nat.le_trans (Nat.pow_le_pow_right (by omega) (show x.Order.toNat ≤ 10 by omega)) (by omega)
    rw [if_neg c1, if_neg c2, m4_quirref_BuddyErr_K6, if_neg ff]
    by_cases c3 : x.At < 0
    · rw [if_pos c3, m4_quirref_BuddyErr_K7, if_pos rfl, if_neg (fun h => by have := h.2.1; omega)]
    by_cases c4 : ((2 ^ B : Nat) : Int) ≤ x.At
    · rw [if_neg c3, if_pos c4, m4_quirref_BuddyErr_K7, if_pos rfl, if_neg (fun h => by have := h.2.2.2.1; omega)]
    rw [if_neg c3, if_neg c4, m4_quirref_BuddyErr_K7, if_neg ff, hsh, bind1_some]
    unfold modW
    rw [if_pos (by omega), bind1_some, tmod_emod (by omega)]
    by_cases c5 : x.At % (sz x : Int) ≠ 0
    · rw [if_pos c5, if_neg (fun h => c5 h.2.2.1)]
    rw [if_neg c5]
    by_cases c6 : x.At ≤ lst
    · rw [if_pos c6, if_neg (fun h => by have := h.2.1; omega)]
    rw [if_neg c6, m4_quirref_BuddyErr_K4, hsh, bind1_some]
    obtain ⟨a, ha⟩ := Int.eq_ofNat_of_zero_le (show 0 ≤ x.At by omega)
    have hdv : sz x ∣ a := by
      have h7 : x.At % (sz x : Int) = 0 := by simpa using c5
      rw [ha] at h7
      exact Int.natCast_dvd_natCast.1 (Int.dvd_of_emod_eq_zero h7)
    have hfit := dvd_add_le hdv (sz_dvd (by omega) : sz x ∣ 2 ^ B) (by omega)
    by_cases c7 : x.At < e
    · have h8 := hM.full a (by omega) (by omega) (by omega)
      have hlt : a < arr.length := by rw [hM.len]; omega
      rw [List.getElem?_eq_getElem hlt] at h8
      have h9 : arr[a] = 1 := Option.some.inj h8
      have e1 : x.At + (0 : Int) = ((a : Nat) : Int) := by omega
      rw [big_succ, m4_quirref_BuddyErr_L2, m4_quirref_BuddyErr_L2B, if_pos (by omega), e1, i64_ok (by omega) (by omega), bind1_some, idx_ok hlt, bind1_some, h9, if_pos (by omega), if_neg (fun h => by have := h.2.1; omega)]
    · obtain ⟨arr', hM', h10⟩ := mark_loop (x := x) (i := i) (go1 := m4_quirref_BuddyErr_L1 b (2 ^ B : Nat) n) (by omega) (by omega) hB (sz x) 0 arr (by omega) hM.len (fun p hp h => hM.free p hp (by omega)) (fun p hp h5 h6 => by omega) big (lt_big (by omega))
      have h11 : m4_quirref_BuddyErr_L2 (sz x) x i (m4_quirref_BuddyErr_L1 b (2 ^ B : Nat) n) big arr 0 = m4_quirref_BuddyErr_K5 i (m4_quirref_BuddyErr_L1 b (2 ^ B : Nat) n) x arr' := h10
      rw [h11, m4_quirref_BuddyErr_K5, m4_quirref_BuddyErr_K3, isucc i (by omega), bind1_some, ih (i + 1) (by omega) arr' x.At _ n hM' (by omega)]
      by_cases c8 : Okb B (x.At + sz x) (b.Taken.drop (i + 1))
      · rw [if_pos c8, if_pos ⟨⟨by omega, by omega⟩, by omega, by simpa using c5, by omega, c8⟩]
      · rw [if_neg c8, if_neg (fun h => c8 h.2.2.2.2)]
end
/-- The answer of both. -/
def errOf (b : TBuddy) : Int := if b.Order < 0 then 1 else if 10 < b.Order then 1 else if Okb b.Order.toNat 0 b.Taken then 0 else 4
theorem check_err (b : TBuddy) (hl : b.Taken.length ≤ 9223372036854775807) : m8_buddy_Check b = some (errOf b) ∧ m4_quirref_BuddyErr b = some (errOf b) := by
  rw [m8_buddy_Check, m4_quirref_BuddyErr]
  unfold errOf
  by_cases c1 : b.Order < 0
  · rw [if_pos c1, if_pos c1, if_pos c1]; exact ⟨rfl, rfl⟩
  by_cases c2 : 10 < b.Order
  · rw [if_neg c1, if_pos c2, if_neg c1, if_pos c2, if_neg c1, if_pos c2]; exact ⟨rfl, rfl⟩
  rw [if_neg c1, if_neg c2, if_neg c1, if_neg c2, if_neg c1, if_neg c2]
  have hB : b.Order.toNat ≤ 10 := by omega
  have hpB := pw_le hB
  have hp0 := pw_pos b.Order.toNat
  have hb : b.Order = (b.Order.toNat : Int) := by omega
  constructor
  · rw [m8_buddy_Check_K1]
    exact check_loop hB hb hl b.Taken.length 0 (by omega) 0 big (by omega) (lt_big (by omega))
  · rw [m4_quirref_BuddyErr_K1]
    have hs := shl1 hB
    rw [← hb] at hs
    rw [hs, bind1_some]
    unfold mk
    rw [if_pos ⟨by omega, by omega⟩, bind1_some]
    refine err_loop hB hb hl b.Taken.length 0 (by omega) _ (-1) 0 big ⟨by rw [List.length_replicate]; exact Int.toNat_natCast _, by omega, by omega, fun p hp h => ?_, fun p hp h5 h6 => by omega⟩ (lt_big (by omega))
    rw [List.getElem?_replicate, Int.toNat_natCast, if_pos hp]
end Go.Proofs.Ytanpiecpmmcaeaa
