/-
  Package lock: a list is like itself; how long tables get; what is no argument.
  Conditions: none.
-/
import Derived.Test.YtgkdimboofglfaaLkE
namespace Go.Proofs.Ytgkdimboofglfaa
open Go.S
set_option linter.unusedVariables false
set_option linter.unusedSimpArgs false
/-- A list is like itself. -/
theorem same_scan {α : Type} {F : Nat → Int → Option Bool} {l : List α} (hl : Ln l) (hend : ∀ n, F (n + 1) (l.length : Nat) = some true) (hstep : ∀ n i (h : i < l.length), F (n + 1) (i : Nat) = F n ((i + 1 : Nat) : Int)) : F big 0 = some true := by
  have key : ∀ (r i : Nat), i + r = l.length → ∀ n, r < n → F n (i : Nat) = some true := by
    intro r
    induction r with
    | zero =>
      intro i hi n hn
      obtain ⟨n, rfl⟩ := dec n hn
      obtain rfl : i = l.length := by omega
      exact hend n
    | succ r ih =>
      intro i hi n hn
      obtain ⟨n, rfl⟩ := dec n (by omega)
      rw [hstep n i (by omega)]
      exact ih (i + 1) (by omega) n (by omega)
  exact key l.length 0 (by omega) big (lt_big (by unfold Ln at hl; omega))
theorem eq_locks (l : List TLock) (h : l.length ≤ 1000000) : m45_api_Lock l l = some true := by
  rw [m45_api_Lock, if_neg (by simp), m45_api_Lock_K1]
  refine same_scan (F := m45_api_Lock_L1 l l) (l := l) (by unfold Ln; omega) (fun n => ?_) (fun n i h => ?_)
  · rw [m45_api_Lock_L1, m45_api_Lock_L1B, if_neg (by omega), m45_api_Lock_K2]
  · rw [m45_api_Lock_L1, m45_api_Lock_L1B, if_pos (by omega), idx_ok h, bind1_some, bind1_some, if_neg (by simp), isucc i (by omega), bind1_some]
theorem eq_ints (l : List Int) (h : l.length ≤ 1000000) : m14_slices_Equal_int l l = some true := by
  rw [m14_slices_Equal_int, if_neg (by simp), m14_slices_Equal_int_K1]
  refine same_scan (F := m14_slices_Equal_int_L1 l l) (l := l) (by unfold Ln; omega) (fun n => ?_) (fun n i h => ?_)
  · rw [m14_slices_Equal_int_L1, m14_slices_Equal_int_L1B, if_neg (by omega), m14_slices_Equal_int_K2]
  · rw [m14_slices_Equal_int_L1, m14_slices_Equal_int_L1B, if_pos (by omega), idx_ok h, bind1_some, bind1_some, if_neg (by simp), isucc i (by omega), bind1_some]
theorem same_locks (t : List TLockItem) (h : t.length ≤ 1000) (hx : ∀ x ∈ t, x.Held.length ≤ 1000 ∧ x.Queue.length ≤ 1000) : m13_quirref_SameLocks t t = some true := by
  rw [m13_quirref_SameLocks, if_neg (by simp), m13_quirref_SameLocks_K2]
  refine same_scan (F := m13_quirref_SameLocks_L1 t t) (l := t) (by unfold Ln; omega) (fun n => ?_) (fun n i h => ?_)
  · rw [m13_quirref_SameLocks_L1, m13_quirref_SameLocks_L1B, if_neg (by omega), m13_quirref_SameLocks_K3, m13_quirref_SameLocks_K1]
  · obtain ⟨h1, h2⟩ := hx _ (List.getElem_mem h)
    rw [m13_quirref_SameLocks_L1, m13_quirref_SameLocks_L1B, if_pos (by omega), idx_ok h, bind1_some, bind1_some, if_pos rfl, eq_locks _ (by omega), bind1_some, if_pos rfl, m13_quirref_SameLocks_K5, if_pos rfl, eq_locks _ (by omega), bind1_some, m13_quirref_SameLocks_K4, if_pos rfl, isucc i (by omega), bind1_some]
theorem len0 {α : Type} : ((([] : List α).length : Nat) : Int) = 0 := rfl
/-! ### How long tables get -/
abbrev Sz (t : List TLockItem) (n : Nat) : Prop := t.length ≤ n ∧ ∀ x ∈ t, x.Held.length ≤ 24 ∧ x.Queue.length ≤ 24
theorem asked_sz {x : TLockItem} (hx : Rt x) (a : TLock) : (askedS x a).1.Held.length ≤ 24 ∧ (askedS x a).1.Queue.length ≤ 24 := by
  have h1 := hx.hl
  have h2 := hx.ql
  have h3 := give_len x.Held a
  have h4 := cnt_le x.Held x.Queue
  unfold askedS
  split
  · simp only; omega
  · simp only [lateS]
    split
    · simp; omega
    · simp; omega
theorem ins_sz (item : Int) (a : TLock) : ∀ {t : List TLockItem}, (∀ x ∈ t, Rt x) → Sz (insS item a t).1 (t.length + 1)
  | [], _ => by simp [insS, Sz]
  | x :: t, h => by
    have hx := h x (by simp)
    have ht : ∀ y ∈ t, y.Held.length ≤ 24 ∧ y.Queue.length ≤ 24 := fun y hy => by
      have := (h y (by simp [hy])).hl
      have := (h y (by simp [hy])).ql
      omega
    have h1 := hx.hl
    have h2 := hx.ql
    rw [insS]
    split
    · refine ⟨by simp, fun y hy => ?_⟩
      simp only [List.mem_cons] at hy
      rcases hy with rfl | rfl | hy
      · simp
      · omega
      · exact ht y hy
    · split
      · refine ⟨by simp, fun y hy => ?_⟩
        simp only [List.mem_cons] at hy
        rcases hy with rfl | hy
        · exact asked_sz hx a
        · exact ht y hy
      · obtain ⟨g1, g2⟩ := ins_sz item a (t := t) fun y hy => h y (by simp [hy])
        refine ⟨by simp only [List.length_cons]; omega, fun y hy => ?_⟩
        simp only [List.mem_cons] at hy
        rcases hy with rfl | hy
        · omega
        · exact g2 y hy
theorem dropQ_sz : ∀ (Q H : List TLock) (g : List Int), (dropQ H Q g).1.length ≤ H.length + Q.length ∧ (dropQ H Q g).2.1.length ≤ Q.length
  | [], H, g => by simp [dropQ]
  | q :: Q, H, g => by
    rw [dropQ]
    split
    · have h1 := dropQ_sz Q (giveL H q) (g ++ [q.Tx])
      have h2 := give_len H q
      simp only [List.length_cons]
      omega
    · simp
theorem dropT_sz (tx : Int) : ∀ (t out : List TLockItem) (g : List Int) (n : Nat), (∀ x ∈ t, Rt x) → Sz out n → Sz (dropT tx t out g).1 (n + t.length) ∧ (dropT tx t out g).2.length ≤ g.length + 12 * t.length
  | [], out, g, n, h, ho => ⟨ho, by simp [dropT]⟩
  | x :: t, out, g, n, h, ho => by
    have hx := h x (by simp)
    have h1 := hx.hl
    have h2 := hx.ql
    have h3 := without_len x.Held tx
    have h4 := without_len x.Queue tx
    have h5 := dropQ_sz (without x.Queue tx) (without x.Held tx) g
    have h6 := dropQ_len (without x.Queue tx) (without x.Held tx) g
    rw [dropT]
    have ho' : Sz (if (dropQ (without x.Held tx) (without x.Queue tx) g).1.isEmpty = true then out else out ++ [⟨x.Item, (dropQ (without x.Held tx) (without x.Queue tx) g).1, (dropQ (without x.Held tx) (without x.Queue tx) g).2.1⟩]) (n + 1) := by
      split
      · exact ⟨by have := ho.1; omega, ho.2⟩
      · refine ⟨by have := ho.1; simp; omega, fun y hy => ?_⟩
        rcases List.mem_append.1 hy with hy | hy
        · exact ho.2 y hy
        · rw [List.mem_singleton] at hy
          subst hy
          simp only
          omega
    obtain ⟨g1, g2⟩ := dropT_sz tx t _ (dropQ (without x.Held tx) (without x.Queue tx) g).2.2 (n + 1) (fun y hy => h y (by simp [hy])) ho'
    refine ⟨⟨by have := g1.1; simp only [List.length_cons]; omega, g1.2⟩, ?_⟩
    simp only [List.length_cons]
    omega
theorem ask_sz {t : List TLockItem} (hg : Good t) (tx item mode : Int) : Sz (askS t tx item mode).1 21 := by
  have hl := hg.len
  unfold askS
  split
  · simp [Sz]
  · have := ins_sz item ⟨tx, mode⟩ hg.rt
    exact ⟨by have := this.1; simp only; omega, this.2⟩
theorem drop_sz {t : List TLockItem} (hg : Good t) (tx : Int) : Sz (dropS t tx).1 20 ∧ (dropS t tx).2.length ≤ 240 := by
  have hl := hg.len
  obtain ⟨h1, h2⟩ := dropT_sz tx t [] [] 0 hg.rt (by simp [Sz])
  exact ⟨⟨by have := h1.1; unfold dropS; omega, h1.2⟩, by unfold dropS; simp only [List.length_nil] at h2; omega⟩
theorem Sz.same {t : List TLockItem} {n : Nat} (h : Sz t n) (hn : n ≤ 1000) : m13_quirref_SameLocks t t = some true :=
  same_locks t (by have := h.1; omega) fun x hx => by have := h.2 x hx; omega
section
variable {t : List TLockItem} {tx item mode : Int}
theorem arg_ask (hg : Good t) (hc : m9_lock_Check t = some 0) (h : tx < 0 ∨ 11 < tx ∨ item < 0 ∨ 19 < item ∨ ¬Md mode) : m6_lock_Ask t tx item mode = some ([], false, 1) := by
  rw [m6_lock_Ask, hc, bind1_some, if_neg (by simp), m6_lock_Ask_K1]
  by_cases c1 : tx < 0
  · rw [if_pos c1, m6_lock_Ask_K32, if_pos rfl]
  rw [if_neg c1]
  by_cases c2 : 12 ≤ tx
  · rw [if_pos c2, m6_lock_Ask_K32, if_pos rfl]
  rw [if_neg c2, m6_lock_Ask_K32, if_neg ff]
  by_cases c3 : item < 0
  · rw [if_pos c3, m6_lock_Ask_K33, if_pos rfl]
  rw [if_neg c3]
  by_cases c4 : 20 ≤ item
  · rw [if_pos c4, m6_lock_Ask_K33, if_pos rfl]
  rw [if_neg c4, m6_lock_Ask_K33, if_neg ff, isMode_eq, bind1_some, if_neg]
  simp only [decide_eq_true_eq]
  intro hm
  rcases h with h | h | h | h | h
  · omega
  · omega
  · omega
  · omega
  · exact h hm
theorem arg_drop (hc : m9_lock_Check t = some 0) (h : tx < 0 ∨ 11 < tx) : m7_lock_Drop t tx = some ([], [], 1) := by
  rw [m7_lock_Drop, hc, bind1_some, if_neg (by simp), m7_lock_Drop_K1]
  by_cases c1 : tx < 0
  · rw [if_pos c1]
  · rw [if_neg c1, if_pos (by omega)]
end
end Go.Proofs.Ytgkdimboofglfaa
