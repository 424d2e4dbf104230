/-
  Words of the models in plain laws: counters, tables.
  Conditions: none.
-/
import Derived.Test.YtjdbjcmmdnpeaaaQ
namespace Go.S
set_option linter.unusedVariables false
set_option linter.unusedSimpArgs false
theorem dec (n : Nat) (h : 0 < n) : ∃ q, n = q + 1 := ⟨n - 1, by omega⟩
theorem isucc (i : Nat) (h : i < 9223372036854775807) : i64 ((i : Int) + 1) = some ((i + 1 : Nat) : Int) := by rw [i64_ok (by omega) (by omega)]; rfl
theorem ipred (i : Nat) (h : 0 < i) (h2 : i < 9223372036854775807) : i64 ((i : Int) - 1) = some ((i - 1 : Nat) : Int) := by rw [i64_ok (by omega) (by omega)]; congr 1; omega
theorem ff : ¬ (false = true) := by simp
theorem lt_big {n : Nat} (h : n ≤ 1180591620717411303423) : n < big := by rw [big_eq]; omega
theorem upd_ok {α : Type} {l : List α} {i : Nat} (x : α) (h : i < l.length) : upd l (i : Int) x = some (l.set i x) := by
  unfold upd
  rw [if_pos (by omega)]
  rfl
theorem drop_cons {α : Type} {l : List α} {i : Nat} (hi : i < l.length) : l.drop i = l[i] :: l.drop (i + 1) := List.drop_eq_getElem_cons hi
theorem take_snoc {α : Type} {l : List α} {i : Nat} (hi : i < l.length) : l.take (i + 1) = l.take i ++ [l[i]] := List.take_succ_eq_append_getElem hi
theorem cut_drop {α : Type} (l : List α) (i : Nat) (h : i ≤ l.length) : cut l (i : Int) (l.length : Int) = some (l.drop i) := by
  rw [cut_ok (by omega) (by omega) (by omega)]
  simp
theorem cut_take {α : Type} (l : List α) (i : Nat) (h : i ≤ l.length) : cut l 0 (i : Int) = some (l.take i) := by
  rw [cut_ok (by omega) (by omega) (by omega)]
  simp
theorem clr_ok {α : Type} (l : List α) (i : Nat) (z : α) (h : i ≤ l.length) : clr l (i : Int) z = some (l.take i ++ List.replicate (l.length - i) z) := by
  unfold clr
  rw [if_pos (by omega)]
  rfl
theorem arrN_ok {α : Type} {n : Nat} {l : List α} (h : l.length = n) : arrN n l = some l := if_pos h
/-- A table of n. -/
def tab {α : Type} (n : Nat) (f : Int → α) : List α := (List.range n).map fun i : Nat => f (i : Int)
theorem tab_length {α : Type} (n : Nat) (f : Int → α) : (tab n f).length = n := by simp [tab]
theorem tab_get {α : Type} {n : Nat} {f : Int → α} {i : Nat} (h : i < n) : (tab n f)[i]? = some (f (i : Int)) := by simp [tab, h]
theorem tab_idx {α : Type} {n : Nat} {f : Int → α} {a : Int} (h0 : 0 ≤ a) (h : a < n) : idx (tab n f) a = some (f a) := by
  obtain ⟨i, rfl⟩ := Int.eq_ofNat_of_zero_le h0
  rw [idx_nat, tab_get (by omega)]
theorem tab_idxA {α : Type} {n : Nat} {f : Int → α} {a : Int} (h0 : 0 ≤ a) (h : a < n) : idxA n (tab n f) a = some (f a) := by
  unfold idxA
  rw [if_pos h, tab_idx h0 h]
theorem tab_ext {α : Type} {n : Nat} {f g : Int → α} (h : ∀ i : Int, 0 ≤ i → i < n → f i = g i) : tab n f = tab n g := by
  unfold tab
  apply List.map_congr_left
  intro i hi
  exact h i (by omega) (by have := List.mem_range.1 hi; omega)
theorem tab_upd {α : Type} {n : Nat} {f : Int → α} {a : Int} (v : α) (h0 : 0 ≤ a) (h : a < n) : upd (tab n f) a v = some (tab n fun i => if i = a then v else f i) := by
  obtain ⟨j, rfl⟩ := Int.eq_ofNat_of_zero_le h0
  have hj : j < n := by omega
  rw [upd_ok v (by rw [tab_length]; exact hj)]
  congr 1
  apply List.ext_getElem?
  intro i
  rw [List.getElem?_set]
  by_cases hi : i < n
  · rw [tab_get hi, tab_get hi]
    by_cases hij : j = i
    · subst hij
      rw [if_pos rfl, if_pos (by rw [tab_length]; exact hj), if_pos rfl]
    · rw [if_neg hij, if_neg (by omega)]
  · rw [if_neg (by omega), List.getElem?_eq_none (by rw [tab_length]; omega), List.getElem?_eq_none (by rw [tab_length]; omega)]
theorem tab_repl {α : Type} (n : Nat) (z : α) : List.replicate n z = tab n fun _ => z := by
  unfold tab
  apply List.ext_getElem?
  intro i
  by_cases h : i < n <;> simp [h]
end Go.S
