/-
  Package lock: what a right table is; copies; what is given.
  Conditions: none.
-/
import Derived.Test.YtgkdimboofglfaaLkB
namespace Go.Proofs.Ytgkdimboofglfaa
open Go.S
set_option linter.unusedVariables false
set_option linter.unusedSimpArgs false
abbrev Ds (l : List TLock) : Prop := l.Pairwise fun a b => a.Tx ≠ b.Tx
theorem hasTx_false {p : List TLock} {t : Int} : hasTx p t = false ↔ ∀ h ∈ p, h.Tx ≠ t := by
  unfold hasTx
  rw [List.any_eq_false]
  simp
theorem hasTx_true {p : List TLock} {t : Int} : hasTx p t = true ↔ ∃ h ∈ p, h.Tx = t := by
  unfold hasTx
  rw [List.any_eq_true]
  simp
theorem ok_iff : ∀ (l p : List TLock), okS p l = true ↔ (∀ a ∈ l, lvB a = true) ∧ (∀ a ∈ l, hasTx p a.Tx = false) ∧ Ds l
  | [], p => by simp [okS]
  | a :: l, p => by
    rw [okS, Bool.and_eq_true, Bool.and_eq_true, ok_iff l, Bool.not_eq_true']
    simp only [List.mem_cons, forall_eq_or_imp, List.pairwise_cons, hasTx_snoc, Bool.or_eq_false_iff, decide_eq_false_iff_not, Ds]
    constructor
    · rintro ⟨⟨h1, h2⟩, h3, h4, h5⟩
      exact ⟨⟨h1, h3⟩, ⟨h2, fun b hb => (h4 b hb).1⟩, fun b hb => (h4 b hb).2, h5⟩
    · rintro ⟨⟨h1, h3⟩, ⟨h2, h4⟩, h5, h6⟩
      exact ⟨⟨h1, h2⟩, h3, fun b hb => ⟨h4 b hb, h5 b hb⟩, h6⟩
theorem ok_iff0 (l : List TLock) : okS [] l = true ↔ (∀ a ∈ l, lvB a = true) ∧ Ds l := by
  rw [ok_iff]
  simp [hasTx]
theorem ds_nodup {l : List TLock} (h : Ds l) : (l.map TLock.Tx).Nodup := by
  rw [List.Nodup, List.pairwise_map]
  exact h
theorem ok_len {l : List TLock} (h : okS [] l = true) : l.length ≤ 12 := by
  obtain ⟨h1, h2⟩ := (ok_iff0 l).1 h
  have h3 : (l.map TLock.Tx) ⊆ (List.range 12).map fun i : Nat => (i : Int) := by
    intro t ht
    obtain ⟨a, ha, rfl⟩ := List.mem_map.1 ht
    obtain ⟨g1, g2, _⟩ := (lv_iff _).1 (h1 a ha)
    refine List.mem_map.2 ⟨a.Tx.toNat, List.mem_range.2 (by omega), by omega⟩
  have := (ds_nodup h2).length_le_of_subset h3
  simpa using this
/-- What is right of an item. -/
structure Rt (x : TLockItem) : Prop where
  i0 : 0 ≤ x.Item
  i1 : x.Item ≤ 19
  ne : x.Held ≠ []
  line : lineS x = true
abbrev Asc (t : List TLockItem) : Prop := t.Pairwise fun x y => x.Item < y.Item
theorem item_none {p : Option Int} {x : TLockItem} : itemS p x = none ↔ Rt x ∧ lowB p x = false := by
  unfold itemS
  by_cases c1 : x.Item < 0 ∨ 19 < x.Item
  · rw [if_pos c1]
    constructor
    · intro h; cases h
    · rintro ⟨h, _⟩
      have := h.i0; have := h.i1; omega
  rw [if_neg c1]
  by_cases c2 : (lowB p x || x.Held.isEmpty || !lineS x) = true
  · rw [if_pos c2]
    constructor
    · intro h; cases h
    · rintro ⟨h, h2⟩
      have h3 := h.ne
      have h4 := h.line
      have h5 : x.Held.isEmpty = false := by cases hh : x.Held with
        | nil => exact absurd hh h3
        | cons _ _ => rfl
      rw [h2, h4, h5] at c2
      simp at c2
  rw [if_neg c2]
  simp only [Bool.or_eq_true, not_or, Bool.not_eq_true, Bool.not_eq_true'] at c2
  obtain ⟨⟨g1, g2⟩, g3⟩ := c2
  refine ⟨fun _ => ⟨⟨by omega, by omega, ?_, by simpa using g3⟩, g1⟩, fun _ => rfl⟩
  intro h
  rw [h] at g2
  cases g2
theorem item_pos {p : Option Int} {x : TLockItem} {e : Int} (h : itemS p x = some e) : e ≠ 0 := by
  unfold itemS at h
  split at h
  · cases h; decide
  · split at h
    · cases h; decide
    · cases h
theorem err_iff : ∀ (t : List TLockItem) (p : Option Int), errS p t = 0 ↔ (∀ x ∈ t, Rt x) ∧ (∀ x ∈ t, lowB p x = false) ∧ Asc t
  | [], p => by simp [errS]
  | x :: t, p => by
    rw [errS]
    cases h : itemS p x with
    | some e =>
      simp only
      refine ⟨fun h2 => absurd h2 (item_pos h), fun h2 => ?_⟩
      have : itemS p x = none := item_none.2 ⟨h2.1 x (by simp), h2.2.1 x (by simp)⟩
      rw [this] at h
      cases h
    | none =>
      obtain ⟨g1, g2⟩ := item_none.1 h
      simp only
      rw [err_iff t (some x.Item)]
      simp only [List.mem_cons, forall_eq_or_imp, List.pairwise_cons, Asc]
      have e : ∀ y : TLockItem, lowB (some x.Item) y = false ↔ x.Item < y.Item := fun y => by simp [lowB]
      constructor
      · rintro ⟨h1, h2, h3⟩
        refine ⟨⟨g1, h1⟩, ⟨g2, fun y hy => ?_⟩, fun y hy => (e y).1 (h2 y hy), h3⟩
        have h4 := (e y).1 (h2 y hy)
        cases p with
        | none => rfl
        | some q =>
          simp only [lowB, decide_eq_false_iff_not, Int.not_le] at g2 ⊢
          omega
      · rintro ⟨⟨_, h1⟩, ⟨_, _⟩, h3, h4⟩
        exact ⟨h1, fun y hy => (e y).2 (h3 y hy), h4⟩
structure Good (t : List TLockItem) : Prop where
  len : t.length ≤ 20
  rt : ∀ x ∈ t, Rt x
  asc : Asc t
theorem good_iff (t : List TLockItem) : checkS t = 0 ↔ Good t := by
  unfold checkS
  by_cases c : 20 < t.length
  · rw [if_pos c]
    exact ⟨fun h => (by cases h), fun h => (by have := h.len; omega)⟩
  · rw [if_neg c, err_iff]
    exact ⟨fun h => ⟨by omega, h.1, h.2.2⟩, fun h => ⟨h.rt, fun _ _ => rfl, h.asc⟩⟩
theorem Rt.held {x : TLockItem} (h : Rt x) : okS [] x.Held = true := by
  have := h.line
  simp only [lineS, Bool.and_eq_true] at this
  exact this.1.1.1
theorem Rt.queue {x : TLockItem} (h : Rt x) : okS [] x.Queue = true := by
  have := h.line
  simp only [lineS, Bool.and_eq_true] at this
  exact this.1.1.2
theorem Rt.pair {x : TLockItem} (h : Rt x) : pairS x.Held = true := by
  have := h.line
  simp only [lineS, Bool.and_eq_true] at this
  exact this.1.2
theorem Rt.head {x : TLockItem} (h : Rt x) : headS x.Held x.Queue = true := by
  have := h.line
  simp only [lineS, Bool.and_eq_true] at this
  exact this.2
theorem Rt.hl {x : TLockItem} (h : Rt x) : x.Held.length ≤ 12 := ok_len h.held
theorem Rt.ql {x : TLockItem} (h : Rt x) : x.Queue.length ≤ 12 := ok_len h.queue
theorem Rt.hm {x : TLockItem} (h : Rt x) : Mds x.Held := ok_mds _ _ h.held
theorem Rt.qm {x : TLockItem} (h : Rt x) : Mds x.Queue := ok_mds _ _ h.queue
/-! ### Copies -/
theorem clone_eq (l : List TLock) (h : l.length ≤ 2513169434916) : m47_api_Lock l = some l := by
  rw [m47_api_Lock, app_ok (by simpa using h), bind1_some, List.nil_append]
theorem scanR_all {α σ ρ : Type} {X : Nat → α → σ → Option ρ ⊕ σ} {E : σ → Option ρ} (f : Nat → α → σ → σ) (hX : ∀ i x s, X i x s = .inr (f i x s)) : ∀ (l : List α) (i : Nat) (s : σ), ∃ s', scanR X E i l s = E s'
  | [], i, s => ⟨s, rfl⟩
  | x :: l, i, s => by rw [scanR, hX]; exact scanR_all f hX l (i + 1) _
theorem scan_snoc {α ρ : Type} (E : List α → Option ρ) : ∀ (l : List α) (i : Nat) (s : List α), scanR (fun _ x s => .inr (s ++ [x])) E i l s = E (s ++ l)
  | [], i, s => by simp [scanR]
  | x :: l, i, s => (scan_snoc E l (i + 1) (s ++ [x])).trans (by simp)
theorem copied_eq {t : List TLockItem} (hl : t.length ≤ 20) (h : ∀ x ∈ t, x.Held.length ≤ 12 ∧ x.Queue.length ≤ 12) : m21_lock_copied t = some t := by
  rw [m21_lock_copied]
  have := scanS0 (F := fun n i s => m21_lock_copied_L1 t n s i) (l := t) (by omega) (X := fun _ x s => .inr (s ++ [x])) (E := fun s => some s) (fun i s => s.length = i) (fun n s hs => ?_) (fun n i s hi hs => ?_) (fun i s s' hi hs hx => ?_) [] rfl
  · rw [scan_snoc] at this
    simpa using this
  · show m21_lock_copied_L1 t (n + 1) s (t.length : Nat) = _
    rw [m21_lock_copied_L1, m21_lock_copied_L1B, if_neg (by omega), m21_lock_copied_K1]
  · obtain ⟨h1, h2⟩ := h _ (List.getElem_mem hi)
    show m21_lock_copied_L1 t (n + 1) s (i : Nat) = _
    rw [m21_lock_copied_L1, m21_lock_copied_L1B, if_pos (by omega), idx_ok hi, bind1_some, clone_eq _ (by omega), bind1_some, clone_eq _ (by omega), bind1_some, app_ok (by simp; omega), bind1_some, isucc i (by omega), bind1_some]
    rfl
  · cases hx
    simp [hs]
/-! ### What is given -/
def giveL (H : List TLock) (a : TLock) : List TLock := if hasTx H a.Tx = true then H.map (fun h => if h.Tx = a.Tx then ⟨h.Tx, wishS H a⟩ else h) else H ++ [⟨a.Tx, wishS H a⟩]
theorem scan_map {α ρ : Type} (g : α → α) (E : List α → Option ρ) : ∀ (l : List α) (i : Nat) (s : List α), scanR (fun _ x s => .inr (s ++ [g x])) E i l s = E (s ++ l.map g)
  | [], i, s => by simp [scanR]
  | x :: l, i, s => (scan_map g E l (i + 1) (s ++ [g x])).trans (by simp)
theorem given_eq (x : TLockItem) (a : TLock) (hl : x.Held.length ≤ 1000000) (hm : Mds x.Held) (ha : Md a.Mode) : m42_quirref_given x a = some ⟨x.Item, giveL x.Held a, x.Queue⟩ := by
  have hL : Ln x.Held := by unfold Ln; omega
  rw [m42_quirref_given, wish_ref x a hL hm ha, bind1_some]
  have := scanS0 (F := fun n i s => m42_quirref_given_L1 x a (wishS x.Held a) n i s) (l := x.Held) hL (X := fun _ h s => .inr (s ++ [if h.Tx = a.Tx then ⟨h.Tx, wishS x.Held a⟩ else h])) (E := fun s => m42_quirref_given_K1 x a (wishS x.Held a) s) (fun i s => s.length = i) (fun n s hs => ?_) (fun n i s hi hs => ?_) (fun i s s' hi hs hx => ?_) [] rfl
  · rw [scan_map] at this
    rw [show m42_quirref_given_L1 x a (wishS x.Held a) big 0 [] = _ from this, m42_quirref_given_K1, holds_eq _ hL, bind1_some, List.nil_append]
    unfold giveL
    by_cases c : hasTx x.Held a.Tx = true
    · rw [if_neg (by rw [holds_zero hm]; simp [c]), if_pos c]
    · have e : (x.Held.map fun h => if h.Tx = a.Tx then (⟨h.Tx, wishS x.Held a⟩ : TLock) else h) = x.Held := by
        have h1 := hasTx_false.1 (by simpa using c)
        conv => rhs; rw [← List.map_id x.Held]
        exact List.map_congr_left fun h hh => by rw [if_neg (h1 h hh)]; rfl
      rw [if_pos ((holds_zero hm _).2 (by simpa using c)), if_neg c, e, app_ok (by simp; omega), bind1_some]
  · show m42_quirref_given_L1 x a (wishS x.Held a) (n + 1) (x.Held.length : Nat) s = _
    rw [m42_quirref_given_L1, m42_quirref_given_L1B, if_neg (by omega)]
  · show m42_quirref_given_L1 x a (wishS x.Held a) (n + 1) (i : Nat) s = _
    rw [m42_quirref_given_L1, m42_quirref_given_L1B, if_pos (by omega), idx_ok hi, bind1_some]
    by_cases c : x.Held[i].Tx = a.Tx
    · rw [if_pos c, m42_quirref_given_K2, app_ok (by simp; omega), bind1_some, isucc i (by omega), bind1_some]
      simp [c]
    · rw [if_neg c, m42_quirref_given_K2, app_ok (by simp; omega), bind1_some, isucc i (by omega), bind1_some]
      simp [c]
  · cases hx
    simp [hs]
/-- Where it is, it is changed in its place. -/
theorem set_map {H : List TLock} (hd : Ds H) {i : Nat} (h : i < H.length) (m : Int) : H.set i ⟨H[i].Tx, m⟩ = H.map fun h => if h.Tx = H[i].Tx then ⟨h.Tx, m⟩ else h := by
  apply List.ext_getElem
  · simp
  · intro j h1 h2
    simp only [List.length_set] at h1
    rw [List.getElem_set, List.getElem_map]
    by_cases c : i = j
    · subst c
      rw [if_pos rfl, if_pos rfl]
    · rw [if_neg c, if_neg]
      intro hh
      rcases Nat.lt_or_gt_of_ne c with hlt | hlt
      · exact (List.pairwise_iff_getElem.1 hd i j h h1 hlt) hh.symm
      · exact (List.pairwise_iff_getElem.1 hd j i h1 h hlt) hh
/-- A walk that sets the first one of a transaction, or ends. -/
theorem give_scan {ρ : Type} {F : Nat → Int → Option ρ} {H : List TLock} (hl : H.length ≤ 1000000) (hd : Ds H) {a : TLock} {m : Int} (K : List TLock → Option ρ) (E : Option ρ)
    (hend : ∀ n, F (n + 1) (H.length : Nat) = E)
    (hstep : ∀ n i (h : i < H.length), F (n + 1) (i : Nat) = if H[i].Tx = a.Tx then bind1 (upd H (i : Nat) ⟨H[i].Tx, m⟩) K else bind1 (i64 ((i : Nat) + 1)) fun x => F n x) :
    F big 0 = if hasTx H a.Tx = true then K (H.map fun h => if h.Tx = a.Tx then ⟨h.Tx, m⟩ else h) else E := by
  have key : ∀ (r i : Nat), i + r = H.length → ∀ n, r < n → F n (i : Nat) = if hasTx (H.drop i) a.Tx = true then K (H.map fun h => if h.Tx = a.Tx then ⟨h.Tx, m⟩ else h) else E := by
    intro r
    induction r with
    | zero =>
      intro i hi n hn
      obtain ⟨n, rfl⟩ := dec n hn
      obtain rfl : i = H.length := by omega
      rw [hend, List.drop_eq_nil_of_le (Nat.le_refl _)]
      rfl
    | succ r ih =>
      intro i hi n hn
      obtain ⟨n, rfl⟩ := dec n (by omega)
      have h1 : i < H.length := by omega
      have e : hasTx (H.drop i) a.Tx = (decide (H[i].Tx = a.Tx) || hasTx (H.drop (i + 1)) a.Tx) := by rw [drop_cons h1]; rfl
      rw [hstep n i h1, e]
      by_cases c : H[i].Tx = a.Tx
      · rw [if_pos c, upd_ok _ h1, bind1_some, set_map hd h1, c]
        simp
      · rw [if_neg c, isucc i (by omega), bind1_some, ih (i + 1) (by omega) n (by omega)]
        simp [c]
  have := key H.length 0 (by omega) big (lt_big (by omega))
  simpa using this
end Go.Proofs.Ytgkdimboofglfaa
