/-
  Package pool: the law's answer.
  Conditions: none.
-/
import Derived.Test.YtfmgjigdebofaaaPoK
namespace Go.Proofs.Ytfmgjigdebofaaa
open Go.S
set_option linter.unusedVariables false
set_option linter.unusedSimpArgs false
theorem equalB {l : List Bool} (hl : l.length ≤ 1000000) : m42_slices_Equal_bool l l = some true := by
  rw [m42_slices_Equal_bool, if_neg (by simp)]
  exact eqB_refl l hl l.length 0 (by omega) big (lt_big (by omega))
theorem equalI {l : List Int} (hl : l.length ≤ 1000000) : m71_slices_Equal_int l l = some true := by
  rw [m71_slices_Equal_int, if_neg (by simp)]
  exact eqI_refl l hl l.length 0 (by omega) big (lt_big (by omega))
/-- The four rules. -/
def isRule (q : Int × Int) : Prop := q = (0, 65) ∨ q = (1, 66) ∨ q = (2, 67) ∨ q = (3, 68)
theorem bad_fx {s : Int} {refs : List Int} {e : Int} (hc : m64_pool_Check s refs = some e) (he : e ≠ 0) {q : Int × Int} (hq : isRule q) : m11_quirlaw_PoolSays_fx q.2 s refs = some ([], [], e) := by
  unfold m11_quirlaw_PoolSays_fx
  rcases hq with rfl | rfl | rfl | rfl
  · rw [if_pos rfl, m65_pool_Fifo, hc, bind1_some, if_pos he]
  · rw [if_neg (by decide), if_pos rfl, m66_pool_Lru, hc, bind1_some, if_pos he]
  · rw [if_neg (by decide), if_neg (by decide), if_pos rfl, m67_pool_Best, hc, bind1_some, if_pos he]
  · rw [if_neg (by decide), if_neg (by decide), if_neg (by decide), if_pos rfl, m68_pool_Clock, hc, bind1_some, if_pos he]
theorem good_fx {s : Nat} {refs : List Int} (hs : 1 ≤ s ∧ s ≤ 50) (hl : refs.length ≤ 2000) {q : Int × Int} (hq : isRule q) : ∃ h k, m11_quirlaw_PoolSays_fx q.2 s refs = some (h, k, 0) ∧ h.length ≤ 2000 ∧ k.length ≤ 50 ∧
    ((q.1 < 3 ∧ m70_quirref_Pool q.1 s refs = some (h, k)) ∨ (¬ q.1 < 3 ∧ m69_quirref_Clock s refs = some (h, k))) := by
  unfold m11_quirlaw_PoolSays_fx
  rcases hq with rfl | rfl | rfl | rfl
  · obtain ⟨h, k, h1, h2, h3, h4⟩ := fifo_eq hs hl
    exact ⟨h, k, by rw [if_pos rfl, h1], h3, h4, Or.inl ⟨by decide, h2⟩⟩
  · obtain ⟨h, k, h1, h2, h3, h4⟩ := lru_eq hs hl
    exact ⟨h, k, by rw [if_neg (by decide), if_pos rfl, h1], h3, h4, Or.inl ⟨by decide, h2⟩⟩
  · obtain ⟨h, k, h1, h2, h3, h4⟩ := best_eq hs hl
    exact ⟨h, k, by rw [if_neg (by decide), if_neg (by decide), if_pos rfl, h1], h3, h4, Or.inl ⟨by decide, h2⟩⟩
  · obtain ⟨h, k, h1, h2, h3, h4⟩ := clock_eq hs hl
    exact ⟨h, k, by rw [if_neg (by decide), if_neg (by decide), if_neg (by decide), if_pos rfl, h1], h3, h4, Or.inr ⟨by decide, h2⟩⟩
theorem law_bad {s : Int} {refs : List Int} {e : Int} (hc : m64_pool_Check s refs = some e) (he : e ≠ 0) : ∀ (m : Nat) (left : List (Int × Int)) (n : Nat), left.length = m → m < n → (∀ q ∈ left, isRule q) → m11_quirlaw_PoolSays_L1 s refs e n left = some true := by
  intro m
  induction m with
  | zero =>
    intro left n hm hn h
    obtain ⟨n, rfl⟩ := dec n hn
    have : left = [] := List.eq_nil_of_length_eq_zero hm
    subst this
    rfl
  | succ m ih =>
    intro left n hm hn h
    obtain ⟨n, rfl⟩ := dec n (by omega)
    rw [m11_quirlaw_PoolSays_L1, m11_quirlaw_PoolSays_L1B]
    refine nxt_ok (by rintro rfl; simp at hm) fun j q hj => ?_
    obtain ⟨hjl, rfl⟩ := List.getElem?_eq_some_iff.1 hj
    have hlen : (left.eraseIdx j).length = m := by rw [List.length_eraseIdx]; split <;> omega
    show (bind3 (m11_quirlaw_PoolSays_fx left[j].2 s refs) _) = some true
    rw [bad_fx hc he (h _ (List.getElem_mem hjl)), bind3_some, if_pos he]
    simp only [List.length_nil]
    rw [i64_ok (by omega) (by omega), bind1_some, if_neg (by omega), if_neg (by simp)]
    exact ih _ n hlen (by omega) fun q hq => h q (List.mem_of_mem_eraseIdx hq)
theorem law_good {s : Nat} {refs : List Int} (hs : 1 ≤ s ∧ s ≤ 50) (hl : refs.length ≤ 2000) : ∀ (m : Nat) (left : List (Int × Int)) (n : Nat), left.length = m → m < n → (∀ q ∈ left, isRule q) → m11_quirlaw_PoolSays_L1 s refs 0 n left = some true := by
  intro m
  induction m with
  | zero =>
    intro left n hm hn h
    obtain ⟨n, rfl⟩ := dec n hn
    have : left = [] := List.eq_nil_of_length_eq_zero hm
    subst this
    rfl
  | succ m ih =>
    intro left n hm hn h
    obtain ⟨n, rfl⟩ := dec n (by omega)
    rw [m11_quirlaw_PoolSays_L1, m11_quirlaw_PoolSays_L1B]
    refine nxt_ok (by rintro rfl; simp at hm) fun j q hj => ?_
    obtain ⟨hjl, rfl⟩ := List.getElem?_eq_some_iff.1 hj
    have hlen : (left.eraseIdx j).length = m := by rw [List.length_eraseIdx]; split <;> omega
    obtain ⟨h0, k0, g1, g2, g3, g4⟩ := good_fx hs hl (h _ (List.getElem_mem hjl))
    obtain ⟨h9, k9, _, g5, _⟩ := clock_eq hs hl
    have hF : ¬ (false = true) := by simp
    have hgo : m11_quirlaw_PoolSays_K5 h0 k0 0 (m11_quirlaw_PoolSays_L1 s refs 0 n) (left.eraseIdx j) h0 k0 = some true := by
      rw [m11_quirlaw_PoolSays_K5, equalB (by omega), bind1_some, if_pos rfl, equalI (by omega), bind1_some, if_pos rfl, m11_quirlaw_PoolSays_K6, if_neg hF, if_neg (by simp)]
      exact ih _ n hlen (by omega) fun q hq => h q (List.mem_of_mem_eraseIdx hq)
    show (bind3 (m11_quirlaw_PoolSays_fx left[j].2 s refs) _) = some true
    rw [g1, bind3_some, if_neg (by simp), m11_quirlaw_PoolSays_K4, g5, bind2_some]
    rcases g4 with ⟨c, g4⟩ | ⟨c, g4⟩
    · rw [if_pos c, g4, bind2_some]; exact hgo
    · rw [if_neg c]
      rw [g5] at g4
      simp only [Option.some.injEq, Prod.mk.injEq] at g4
      obtain ⟨rfl, rfl⟩ := g4
      exact hgo
theorem rules : ∀ q ∈ mset (mset (mset (mset [] 0 (65 : Int)) 1 (66 : Int)) 2 (67 : Int)) 3 (68 : Int), isRule q := by
  intro q hq
  have e : mset (mset (mset (mset [] 0 (65 : Int)) 1 (66 : Int)) 2 (67 : Int)) 3 (68 : Int) = [(0, 65), (1, 66), (2, 67), (3, 68)] := by decide
  rw [e] at hq
  simpa [isRule] using hq
theorem pool_true (s : Int) (refs : List Int) : m11_quirlaw_PoolSays s refs = some true := by
  have bad : ∀ e : Int, m64_pool_Check s refs = some e → e ≠ 0 → m11_quirlaw_PoolSays_K1 s refs e = some true := by
    intro e hc he
    rw [m11_quirlaw_PoolSays_K1, hc, bind1_some, if_neg (by simp), m11_quirlaw_PoolSays_K2]
    simp only [bind1_some]
    exact law_bad hc he 4 _ big (by decide) (lt_big (by omega)) rules
  rw [m11_quirlaw_PoolSays]
  by_cases h1 : s < 1
  · rw [if_pos h1]
    exact bad 1 (by rw [m64_pool_Check, if_pos h1]) (by decide)
  by_cases h2 : 50 < s
  · rw [if_neg h1, if_pos h2]
    exact bad 1 (by rw [m64_pool_Check, if_neg h1, if_pos h2]) (by decide)
  by_cases h3 : 2000 < (refs.length : Int)
  · rw [if_neg h1, if_neg h2, if_pos h3]
    exact bad 2 (by rw [m64_pool_Check, if_neg h1, if_neg h2, if_pos h3]) (by decide)
  rw [if_neg h1, if_neg h2, if_neg h3]
  obtain ⟨s, rfl⟩ := Int.eq_ofNat_of_zero_le (show 0 ≤ s by omega)
  rw [m11_quirlaw_PoolSays_K1, check_ok (by omega) (by omega), bind1_some, if_neg (by simp), m11_quirlaw_PoolSays_K2]
  simp only [bind1_some]
  exact law_good (by omega) (by omega) 4 _ big (by decide) (lt_big (by omega)) rules
end Go.Proofs.Ytfmgjigdebofaaa
