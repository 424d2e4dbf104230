/-
  Package lock: Ask.
  Conditions: none.
-/
import Derived.Test.YtgkdimboofglfaaLkC
namespace Go.Proofs.Ytgkdimboofglfaa
open Go.S
set_option linter.unusedVariables false
set_option linter.unusedSimpArgs false
def cntS (H Q : List TLock) : Nat := (Q.takeWhile fun q => hasTx H q.Tx).length
def lateS (H Q : List TLock) (a : TLock) : List TLock := if hasTx H a.Tx = true then Q.take (cntS H Q) ++ [a] ++ Q.drop (cntS H Q) else Q ++ [a]
def askedS (x : TLockItem) (a : TLock) : TLockItem × Bool :=
  if (canS x.Held a && (hasTx x.Held a.Tx || x.Queue.isEmpty)) = true then (⟨x.Item, giveL x.Held a, x.Queue⟩, true) else (⟨x.Item, x.Held, lateS x.Held x.Queue a⟩, false)
theorem cnt_le (H Q : List TLock) : cntS H Q ≤ Q.length := (List.takeWhile_prefix _).length_le
theorem takeWhile_step {α : Type} (p : α → Bool) {l : List α} {i : Nat} (h : i < l.length) : ((l.drop i).takeWhile p).length = if p l[i] = true then ((l.drop (i + 1)).takeWhile p).length + 1 else 0 := by
  rw [drop_cons h, List.takeWhile_cons]
  split <;> simp
/-- A counter that goes on while something holds. -/
theorem scan_while {α ρ : Type} (p : α → Bool) {F : Nat → Int → Option ρ} {l : List α} (hl : l.length ≤ 1000000) (G : Nat → Option ρ) (hend : ∀ n, F (n + 1) (l.length : Nat) = G l.length)
    (hstep : ∀ n i (h : i < l.length), F (n + 1) (i : Nat) = if p l[i] = true then bind1 (i64 ((i : Nat) + 1)) fun x => F n x else G i) : F big 0 = G (l.takeWhile p).length := by
  have key : ∀ (r i : Nat), i + r = l.length → ∀ n, r < n → F n (i : Nat) = G (i + ((l.drop i).takeWhile p).length) := by
    intro r
    induction r with
    | zero =>
      intro i hi n hn
      obtain ⟨n, rfl⟩ := dec n hn
      obtain rfl : i = l.length := by omega
      rw [hend, List.drop_eq_nil_of_le (Nat.le_refl _)]; rfl
    | succ r ih =>
      intro i hi n hn
      obtain ⟨n, rfl⟩ := dec n (by omega)
      have h1 : i < l.length := by omega
      rw [hstep n i h1, takeWhile_step p h1]
      by_cases c : p l[i] = true
      · rw [if_pos c, if_pos c, isucc i (by omega), bind1_some, ih (i + 1) (by omega) n (by omega)]
        congr 1; omega
      · rw [if_neg c, if_neg c]; rfl
  have := key l.length 0 (by omega) big (lt_big (by omega))
  simpa using this
theorem insR_ok {α : Type} {l : List α} {i : Nat} (x : α) (h : i ≤ l.length) (hl : l.length ≤ 1000000000) : xInsR l (i : Int) x = some (l.take i ++ [x] ++ l.drop i) := by
  unfold xInsR
  rw [if_pos ⟨by omega, by omega, hl⟩]
  rfl
/-! ### The document's answer -/
section
variable {x : TLockItem} {a : TLock}
theorem late_ref (hx : Rt x) (h : hasTx x.Held a.Tx = true) : m46_quirref_asked_K5 x a = some (⟨x.Item, x.Held, lateS x.Held x.Queue a⟩, false) := by
  have h1 := hx.hl
  have h2 := hx.ql
  have hL : Ln x.Held := by unfold Ln; omega
  have hc := cnt_le x.Held x.Queue
  rw [m46_quirref_asked_K5, scan_while (fun q => hasTx x.Held q.Tx) (F := m46_quirref_asked_L1 x a) (l := x.Queue) (by omega) (fun i => m46_quirref_asked_K6 x a (i : Nat)) (fun n => ?_) (fun n i hi => ?_)]
  · show m46_quirref_asked_K6 x a (cntS x.Held x.Queue : Nat) = _
    rw [m46_quirref_asked_K6, clone_eq _ (by omega), bind1_some, insR_ok _ hc (by omega), bind1_some, m46_quirref_asked_K7, lateS, if_pos h]
  · rw [m46_quirref_asked_L1, m46_quirref_asked_L1B, if_neg (by omega)]
  · rw [m46_quirref_asked_L1, m46_quirref_asked_L1B, if_pos (by omega), idx_ok hi, bind1_some, holds_eq _ hL, bind1_some]
    by_cases c : hasTx x.Held x.Queue[i].Tx = true
    · rw [if_pos ((holds_pos hx.hm _).2 c), if_pos c]
    · rw [if_neg (by rw [holds_pos hx.hm]; exact c), if_neg c]
theorem asked_ref (hx : Rt x) (ha : Md a.Mode) : m46_quirref_asked x a = some (askedS x a) := by
  have h1 := hx.hl
  have h2 := hx.ql
  have hL : Ln x.Held := by unfold Ln; omega
  rw [m46_quirref_asked, holds_eq _ hL, bind1_some, askedS]
  by_cases c : hasTx x.Held a.Tx = true
  · rw [if_pos ((holds_pos hx.hm _).2 c), m46_quirref_asked_K1, if_pos rfl, can_ref x a hL hx.hm ha, bind1_some]
    cases c2 : canS x.Held a with
    | true => simp [c, given_eq x a (by omega) hx.hm ha]
    | false => rw [if_neg ff, late_ref hx c, if_neg (by simp)]
  · rw [if_neg (by rw [holds_pos hx.hm]; exact c), m46_quirref_asked_K1, if_neg ff, can_ref x a hL hx.hm ha, bind1_some]
    have late : m46_quirref_asked_K2 x a = some (⟨x.Item, x.Held, lateS x.Held x.Queue a⟩, false) := by
      rw [m46_quirref_asked_K2, m46_quirref_asked_K3, clone_eq _ (by omega), bind1_some, insR_ok _ (Nat.le_refl _) (by omega), bind1_some, m46_quirref_asked_K4, lateS, if_neg c]
      simp
    cases c2 : canS x.Held a with
    | true =>
      rw [if_pos rfl]
      cases hQ : x.Queue with
      | nil => simp [given_eq x a (by omega) hx.hm ha, hQ]
      | cons q Q =>
        rw [← hQ, if_neg (by rw [hQ]; simp only [List.length_cons]; omega), late, if_neg]
        simp [c, hQ]
    | false => rw [if_neg ff, late, if_neg (by simp)]
end
def insS (item : Int) (a : TLock) : List TLockItem → List TLockItem × Bool
  | [] => ([⟨item, [a], []⟩], true)
  | x :: t => if item < x.Item then (⟨item, [a], []⟩ :: x :: t, true) else if x.Item = item then ((askedS x a).1 :: t, (askedS x a).2) else (x :: (insS item a t).1, (insS item a t).2)
def askS (t : List TLockItem) (tx item mode : Int) : List TLockItem × Bool × Int :=
  if (t.any fun x => hasTx x.Queue tx) = true then ([], false, 10) else ((insS item ⟨tx, mode⟩ t).1, (insS item ⟨tx, mode⟩ t).2, 0)
section
variable {t : List TLockItem} {tx item mode : Int}
theorem rest_ref (hg : Good t) : ∀ (r i : Nat), i + r = t.length → ∀ n, r < n → ∀ (out : List TLockItem) (ok : Bool), out.length ≤ i + 1 → m15_quirref_AskLock_L1 t item tx mode n out true ok (i : Nat) = some (out ++ t.drop i, ok, 0) := by
  have hl := hg.len
  intro r
  induction r with
  | zero =>
    intro i hi n hn out ok ho
    obtain ⟨n, rfl⟩ := dec n hn
    rw [m15_quirref_AskLock_L1, m15_quirref_AskLock_L1B, if_neg (by omega), m15_quirref_AskLock_K2, if_pos rfl, List.drop_eq_nil_of_le (by omega), List.append_nil]
  | succ r ih =>
    intro i hi n hn out ok ho
    obtain ⟨n, rfl⟩ := dec n (by omega)
    have h1 : i < t.length := by omega
    rw [m15_quirref_AskLock_L1, m15_quirref_AskLock_L1B, if_pos (by omega), idx_ok h1, bind1_some, if_pos rfl, m15_quirref_AskLock_K3, if_pos rfl, app_ok (by simp; omega), bind1_some, isucc i (by omega), bind1_some, ih (i + 1) (by omega) n (by omega) _ _ (by simp; omega), drop_cons h1, List.append_assoc]
    rfl
theorem ins_ref (hg : Good t) (hm : Md mode) : ∀ (r i : Nat), i + r = t.length → ∀ n, r < n → ∀ (out : List TLockItem), out.length ≤ i → m15_quirref_AskLock_L1 t item tx mode n out false false (i : Nat) = some (out ++ (insS item ⟨tx, mode⟩ (t.drop i)).1, (insS item ⟨tx, mode⟩ (t.drop i)).2, 0) := by
  have hl := hg.len
  intro r
  induction r with
  | zero =>
    intro i hi n hn out ho
    obtain ⟨n, rfl⟩ := dec n hn
    rw [m15_quirref_AskLock_L1, m15_quirref_AskLock_L1B, if_neg (by omega), m15_quirref_AskLock_K2, if_neg ff, List.drop_eq_nil_of_le (by omega), app_ok (by simp; omega), bind1_some]
    rfl
  | succ r ih =>
    intro i hi n hn out ho
    obtain ⟨n, rfl⟩ := dec n (by omega)
    have h1 : i < t.length := by omega
    have hs := isucc i (by omega)
    rw [m15_quirref_AskLock_L1, m15_quirref_AskLock_L1B, if_pos (by omega), idx_ok h1, bind1_some, if_neg ff, drop_cons h1, insS]
    by_cases c1 : item ≤ t[i].Item
    · rw [if_pos c1]
      by_cases c2 : item < t[i].Item
      · rw [if_pos c2, if_pos c2, app_ok (by simp; omega), bind1_some, m15_quirref_AskLock_K3, if_pos rfl, app_ok (by simp; omega), bind1_some, hs, bind1_some, rest_ref hg r (i + 1) (by omega) n (by omega) _ _ (by simp; omega)]
        simp only [List.append_assoc]
        rfl
      · have c3 : t[i].Item = item := by omega
        obtain ⟨z1, z2, hz⟩ : ∃ z1 z2, askedS t[i] ⟨tx, mode⟩ = (z1, z2) := ⟨_, _, rfl⟩
        rw [if_neg c2, if_neg c2, if_pos c3, asked_ref (hg.rt _ (List.getElem_mem h1)) hm, hz, bind2_some, m15_quirref_AskLock_K3, if_pos rfl, app_ok (by simp; omega), bind1_some, hs, bind1_some, rest_ref hg r (i + 1) (by omega) n (by omega) _ _ (by simp; omega), List.append_assoc]
        rfl
    · rw [if_neg c1, if_neg (by omega), if_neg (by omega), m15_quirref_AskLock_K3, if_neg ff, app_ok (by simp; omega), bind1_some, hs, bind1_some, ih (i + 1) (by omega) n (by omega) _ (by simp; omega), List.append_assoc]
      rfl
theorem ask_ref (hg : Good t) (hm : Md mode) : m15_quirref_AskLock t tx item mode = some (askS t tx item mode) := by
  have hl := hg.len
  rw [m15_quirref_AskLock, scan00 (F := m15_quirref_AskLock_L2 t tx item mode) (l := t) (by omega) (fun _ x => if hasTx x.Queue tx = true then some (some ([], false, 10)) else none) (m15_quirref_AskLock_K1 t item tx mode) (fun n => ?_) (fun n i h => ?_), scanX_any, askS]
  · split
    · rfl
    · rw [m15_quirref_AskLock_K1]
      have := ins_ref (item := item) (tx := tx) hg hm t.length 0 (by omega) big (lt_big (by omega)) [] (by simp)
      rw [List.drop_zero] at this
      exact this
  · rw [m15_quirref_AskLock_L2, m15_quirref_AskLock_L2B, if_neg (by omega)]
  · have hx := hg.rt _ (List.getElem_mem h)
    have := hx.ql
    rw [m15_quirref_AskLock_L2, m15_quirref_AskLock_L2B, if_pos (by omega), idx_ok h, bind1_some, holds_eq _ (by unfold Ln; omega), bind1_some, isucc i (by omega), bind1_some]
    by_cases c : hasTx t[i].Queue tx = true
    · rw [if_pos ((holds_pos hx.qm _).2 c)]; simp [c]
    · rw [if_neg (by rw [holds_pos hx.qm]; exact c)]; simp [c]
/-! ### The program's -/
abbrev posS (t : List TLockItem) (item : Int) : Nat := (t.takeWhile fun x => decide (x.Item < item)).length
theorem pos_le : posS t item ≤ t.length := (List.takeWhile_prefix _).length_le
theorem pos_iff : ∀ {t : List TLockItem}, Asc t → ∀ q (h : q < t.length), t[q].Item < item ↔ q < posS t item
  | [], _, q, h => by simp at h
  | x :: t, ha, q, h => by
    obtain ⟨h1, h2⟩ := List.pairwise_cons.1 ha
    unfold posS
    rw [List.takeWhile_cons]
    by_cases c : x.Item < item
    · rw [if_pos (by simpa using c)]
      cases q with
      | zero => simpa using c
      | succ q =>
        have := pos_iff h2 q (by simpa using h)
        simp only [List.getElem_cons_succ, List.length_cons]
        rw [this]
        exact ⟨fun h => Nat.succ_lt_succ h, fun h => Nat.lt_of_succ_lt_succ h⟩
    · rw [if_neg (by simpa using c)]
      simp only [List.length_nil, Nat.not_lt_zero, iff_false]
      cases q with
      | zero => exact c
      | succ q =>
        have hq : q < t.length := by simpa using h
        have := h1 t[q] (List.getElem_mem hq)
        simp only [List.getElem_cons_succ]
        omega
theorem ins_pos (a : TLock) : ∀ {t : List TLockItem}, insS item a t = (t.take (posS t item) ++ (insS item a (t.drop (posS t item))).1, (insS item a (t.drop (posS t item))).2)
  | [] => by simp
  | x :: t => by
    unfold posS
    rw [List.takeWhile_cons]
    by_cases c : x.Item < item
    · rw [if_pos (by simpa using c), List.length_cons, List.take_succ_cons, List.drop_succ_cons]
      have h := ins_pos a (t := t)
      rw [insS, if_neg (by omega), if_neg (by omega)]
      have e1 := congrArg Prod.fst h
      have e2 := congrArg Prod.snd h
      simp only at e1 e2
      rw [e1, e2]
      rfl
    · rw [if_neg (by simpa using c)]
      rfl
theorem shr1 (a : Nat) (h : a < 9223372036854775808) : shrW .u64 (IntKind.wrap .u64 (a : Int)) 1 = some ((a / 2 : Nat) : Int) := by
  rw [wrapU_nat .u64 rfl a (by rw [p64]; omega)]
  have := shrW_u64 a 1 (by omega)
  simpa using this
theorem find_lock (hg : Good t) (h0 : 0 ≤ item) (h1 : item ≤ 19) : ∀ (k i j : Nat), j - i ≤ k → i ≤ posS t item → posS t item ≤ j → j ≤ t.length → ∀ n, k < n → m6_lock_Ask_L6 t item tx mode n (i : Nat) (j : Nat) = m6_lock_Ask_K24 t item tx mode (posS t item : Nat) := by
  have hl := hg.len
  intro k
  induction k with
  | zero =>
    intro i j hk hi hj hjl n hn
    obtain ⟨n, rfl⟩ := dec n hn
    have : i = posS t item := by omega
    rw [m6_lock_Ask_L6, m6_lock_Ask_L6B, if_neg (by omega), this]
  | succ k ih =>
    intro i j hk hi hj hjl n hn
    obtain ⟨n, rfl⟩ := dec n (by omega)
    rw [m6_lock_Ask_L6, m6_lock_Ask_L6B]
    by_cases c : i < j
    · have hh : (i + j) / 2 < t.length := by omega
      have hx := hg.rt _ (List.getElem_mem hh)
      have := hx.i0
      have := hx.i1
      rw [if_pos (by omega), m6_lock_Ask_K26, show ((i : Nat) : Int) + ((j : Nat) : Int) = ((i + j : Nat) : Int) by omega, i64_ok (by omega) (by omega), bind1_some, shr1 _ (by omega), bind1_some, wrapI64 (by omega) (by omega), idx_ok hh, bind1_some, i64_ok (by omega) (by omega), bind1_some, m6_lock_Ask_K27, wrapI64 (by omega) (by omega)]
      have hp := pos_iff (item := item) hg.asc _ hh
      by_cases c2 : t[(i + j) / 2].Item < item
      · have := hp.1 c2
        rw [if_pos (by omega), isucc _ (by omega), bind1_some]
        exact ih _ j (by omega) (by omega) hj hjl n (by omega)
      · rw [if_neg (by omega)]
        rw [hp] at c2
        exact ih i _ (by omega) hi (by omega) (by omega) n (by omega)
    · have : i = posS t item := by omega
      rw [if_neg (by omega), this]
section
variable {a1 a3 : Int} {p : Nat}
theorem late_in {x y : TLockItem} (hH : y.Held = x.Held) (h1 : x.Held.length ≤ 12) (g : Nat) (T : List TLockItem) (P : Int) (q : TLock) (hq : idx y.Queue (g : Nat) = some q) (go : Int → Option (List TLockItem × Bool × Int)) :
    m6_lock_Ask_L3 y (g : Nat) go T P tx mode big 0 = m6_lock_Ask_K13 (g : Nat) go T P tx mode (hasTx x.Held q.Tx) := by
  rw [scan00 (F := m6_lock_Ask_L3 y (g : Nat) go T P tx mode) (l := x.Held) (by omega) (fun _ z => if decide (z.Tx = q.Tx) = true then some (m6_lock_Ask_K13 (g : Nat) go T P tx mode true) else none) (m6_lock_Ask_K13 (g : Nat) go T P tx mode false) (fun n => ?_) (fun n i h => ?_), scanX_any]
  · unfold hasTx
    cases (x.Held.any fun z => decide (z.Tx = q.Tx)) with
    | true => rw [if_pos rfl]
    | false => rw [if_neg ff]
  · rw [m6_lock_Ask_L3, m6_lock_Ask_L3B, hH, if_neg (by omega), m6_lock_Ask_K15, m6_lock_Ask_K14, show decide ((0 : Int) ≤ -1) = false by decide]
  · rw [m6_lock_Ask_L3, m6_lock_Ask_L3B, hH, if_pos (by omega), idx_ok h, bind1_some, hq, bind1_some, m6_lock_Ask_K16, isucc i (by omega), bind1_some]
    by_cases c : x.Held[i].Tx = q.Tx
    · rw [if_pos (by simpa using c), m6_lock_Ask_K14, show decide ((0 : Int) ≤ ((i : Nat) : Int)) = true by simp, if_pos (by simpa using c), orGo_some]
    · rw [if_neg (by simpa using c), if_neg (by simpa using c), orGo_none]
theorem late_lock {x : TLockItem} (hp : p < t.length) (hx : Rt x) (h : hasTx x.Held tx = true) : m6_lock_Ask_K10 x tx mode t (p : Nat) = some (t.set p ⟨x.Item, x.Held, lateS x.Held x.Queue ⟨tx, mode⟩⟩, false, 0) := by
  have h1 := hx.hl
  have h2 := hx.ql
  have hc := cnt_le x.Held x.Queue
  rw [m6_lock_Ask_K10, app_ok (by simp; omega), bind1_some, upd_ok _ hp, bind1_some]
  generalize hy : (⟨x.Item, x.Held, x.Queue ++ [⟨tx, mode⟩]⟩ : TLockItem) = y
  have hyH : y.Held = x.Held := by rw [← hy]
  have hyQ : y.Queue = x.Queue ++ [⟨tx, mode⟩] := by rw [← hy]
  have hyI : y.Item = x.Item := by rw [← hy]
  have hyl : ((y.Queue.length : Nat) : Int) - 1 = (x.Queue.length : Nat) := by rw [hyQ, List.length_append, List.length_singleton]; omega
  have hyi : i64 ((x.Queue.length : Nat) : Int) = some ((x.Queue.length : Nat) : Int) := i64_ok (by omega) (by omega)
  have hi : idx (t.set p y) (p : Nat) = some y := by rw [idx_ok (by simpa using hp), List.getElem_set_self]
  rw [scan_while (fun q => hasTx x.Held q.Tx) (F := m6_lock_Ask_L2 (t.set p y) (p : Nat) tx mode) (l := x.Queue) (by omega) (fun i => m6_lock_Ask_K12 (t.set p y) (p : Nat) tx mode (i : Nat)) (fun n => ?_) (fun n i h => ?_)]
  · show m6_lock_Ask_K12 (t.set p y) (p : Nat) tx mode (cntS x.Held x.Queue : Nat) = _
    have e1 : y.Queue.take x.Queue.length = x.Queue := by rw [hyQ, List.take_left]
    rw [m6_lock_Ask_K12, hi, bind1_some, hyl, hyi, bind1_some, cut_take _ _ (by rw [hyQ, List.length_append]; omega), bind1_some, e1, insR_ok _ hc (by omega), bind1_some, upd_ok _ (by simpa using hp), bind1_some, m6_lock_Ask_K11, List.set_set, hyI, hyH, lateS, if_pos h]
  · rw [m6_lock_Ask_L2, m6_lock_Ask_L2B, hi, bind1_some, hyl, hyi, bind1_some, if_neg (by omega)]
  · have hq : idx y.Queue (i : Nat) = some x.Queue[i] := by
      rw [hyQ, idx_nat, List.getElem?_append_left h, List.getElem?_eq_getElem h]
    rw [m6_lock_Ask_L2, m6_lock_Ask_L2B, hi, bind1_some, hyl, hyi, bind1_some, if_pos (by omega), late_in hyH h1 i _ _ _ hq, m6_lock_Ask_K13]
theorem item_lock (hp : p < t.length) (hx : Rt t[p]) (hm : Md mode) : m6_lock_Ask_K4 t tx mode item (p : Nat) true = some (t.set p (askedS t[p] ⟨tx, mode⟩).1, (askedS t[p] ⟨tx, mode⟩).2, 0) := by
  have h1 := hx.hl
  have h2 := hx.ql
  have hL : Ln t[p].Held := by unfold Ln; omega
  have hds := ((ok_iff0 _).1 hx.held).2
  rw [m6_lock_Ask_K4, if_pos rfl, idx_ok hp, bind1_some]
  have hcan := can_lock t[p] ⟨tx, mode⟩ hL hx.hm hm
  have hwish := wish_lock t[p] ⟨tx, mode⟩ hL hx.hm hm
  rw [scan00 (F := m6_lock_Ask_L5 t[p] tx mode t (p : Nat)) (l := t[p].Held) (by omega) (fun _ z => if decide (z.Tx = tx) = true then some (m6_lock_Ask_K5 t[p] tx mode t (p : Nat) true) else none) (m6_lock_Ask_K5 t[p] tx mode t (p : Nat) false) (fun n => ?_) (fun n i h => ?_), scanX_any]
  · rw [show (t[p].Held.any fun z => decide (z.Tx = tx)) = hasTx t[p].Held tx from rfl]
    unfold askedS
    cases c : hasTx t[p].Held tx with
    | true =>
      rw [if_pos rfl, m6_lock_Ask_K5, if_pos rfl, hcan, bind1_some]
      cases c2 : canS t[p].Held ⟨tx, mode⟩ with
      | false => rw [if_neg ff, late_lock hp hx c]; simp
      | true =>
        rw [if_pos rfl, hwish, bind1_some, give_scan (F := m6_lock_Ask_L4 t[p] tx (wishS t[p].Held ⟨tx, mode⟩) t (p : Nat)) (H := t[p].Held) (a := ⟨tx, mode⟩) (m := wishS t[p].Held ⟨tx, mode⟩) (by omega) hds (fun l => some (t.set p ⟨t[p].Item, l, t[p].Queue⟩, true, 0)) (m6_lock_Ask_K18 t[p] tx (wishS t[p].Held ⟨tx, mode⟩) t (p : Nat)) (fun n => ?_) (fun n i h => ?_), if_pos c]
        · simp [giveL, c]
        · rw [m6_lock_Ask_L4, m6_lock_Ask_L4B, if_neg (by omega)]
        · rw [m6_lock_Ask_L4, m6_lock_Ask_L4B, if_pos (by omega), idx_ok h, bind1_some, bind1_some, upd_ok _ h, bind1_some, bind1_some, upd_ok _ hp, bind1_some, m6_lock_Ask_K17]
    | false =>
      rw [if_neg ff, m6_lock_Ask_K5, if_neg ff, hcan, bind1_some]
      have late : m6_lock_Ask_K6 t[p] tx mode t (p : Nat) = some (t.set p ⟨t[p].Item, t[p].Held, lateS t[p].Held t[p].Queue ⟨tx, mode⟩⟩, false, 0) := by
        rw [m6_lock_Ask_K6, app_ok (by simp; omega), bind1_some, upd_ok _ hp, bind1_some, m6_lock_Ask_K7, lateS, if_neg (by rw [c]; simp)]
      cases c2 : canS t[p].Held ⟨tx, mode⟩ with
      | false => rw [if_neg ff, late]; simp
      | true =>
        rw [if_pos rfl]
        by_cases c3 : t[p].Queue = []
        · rw [if_pos (by rw [c3]; rfl), hwish, bind1_some, give_scan (F := m6_lock_Ask_L1 t[p] tx (wishS t[p].Held ⟨tx, mode⟩) t (p : Nat)) (H := t[p].Held) (a := ⟨tx, mode⟩) (m := wishS t[p].Held ⟨tx, mode⟩) (by omega) hds (fun l => some (t.set p ⟨t[p].Item, l, t[p].Queue⟩, true, 0)) (m6_lock_Ask_K9 t[p] tx (wishS t[p].Held ⟨tx, mode⟩) t (p : Nat)) (fun n => ?_) (fun n i h => ?_), if_neg (by rw [c]; simp), m6_lock_Ask_K9, app_ok (by simp; omega), bind1_some, upd_ok _ hp, bind1_some, m6_lock_Ask_K8]
          · simp [giveL, c, c3]
          · rw [m6_lock_Ask_L1, m6_lock_Ask_L1B, if_neg (by omega)]
          · rw [m6_lock_Ask_L1, m6_lock_Ask_L1B, if_pos (by omega), idx_ok h, bind1_some, bind1_some, upd_ok _ h, bind1_some, bind1_some, upd_ok _ hp, bind1_some, m6_lock_Ask_K8]
        · have : (t[p].Queue.length : Int) ≠ 0 := by
            intro h0
            exact c3 (List.length_eq_zero_iff.1 (by omega))
          rw [if_neg this, late, if_neg]
          simp [c3]
  · rw [m6_lock_Ask_L5, m6_lock_Ask_L5B, if_neg (by omega), m6_lock_Ask_K21, m6_lock_Ask_K20, m6_lock_Ask_K19]; rfl
  · rw [m6_lock_Ask_L5, m6_lock_Ask_L5B, if_pos (by omega), idx_ok h, bind1_some, m6_lock_Ask_K22, isucc i (by omega), bind1_some]
    by_cases c : t[p].Held[i].Tx = tx
    · simp [c, m6_lock_Ask_K20, m6_lock_Ask_K19]
    · simp [c]
end
theorem ask_lock (hg : Good t) (h0 : 0 ≤ item) (h1 : item ≤ 19) (ht0 : 0 ≤ tx) (ht1 : tx ≤ 11) (hm : Md mode) : m6_lock_Ask t tx item mode = some (askS t tx item mode) := by
  have hl := hg.len
  have hchk := check_lock t (by unfold Ln; omega) (fun x hx => by
    have := (hg.rt x hx).hl
    have := (hg.rt x hx).ql
    unfold Ln; omega)
  rw [(good_iff t).2 hg] at hchk
  rw [m6_lock_Ask, hchk, bind1_some, if_neg (by simp), m6_lock_Ask_K1, if_neg (by omega), if_neg (by omega), m6_lock_Ask_K32, if_neg ff, if_neg (by omega), if_neg (by omega), m6_lock_Ask_K33, if_neg ff, isMode_eq, bind1_some, if_pos (by simpa using hm), m6_lock_Ask_K2,
    scan00 (F := m6_lock_Ask_L7 t tx item mode) (l := t) (by omega) (fun _ x => if hasTx x.Queue tx = true then some (some ([], false, 10)) else none) (m6_lock_Ask_K3 t item tx mode) (fun n => ?_) (fun n i h => ?_), scanX_any, askS]
  · split
    · rfl
    · rw [m6_lock_Ask_K3, copied_eq hl (fun x hx => ⟨(hg.rt x hx).hl, (hg.rt x hx).ql⟩), bind1_some]
      have := find_lock (item := item) (tx := tx) (mode := mode) hg h0 h1 t.length 0 t.length (by omega) (by omega) pos_le (Nat.le_refl _) big (lt_big (by omega))
      rw [show m6_lock_Ask_L6 t item tx mode big 0 (t.length : Int) = _ from this, m6_lock_Ask_K24, ins_pos]
      have hpl := pos_le (t := t) (item := item)
      have new : m6_lock_Ask_K23 t tx mode item (posS t item : Nat) false = some (t.take (posS t item) ++ [⟨item, [⟨tx, mode⟩], []⟩] ++ t.drop (posS t item), true, 0) := by
        rw [m6_lock_Ask_K23, if_neg ff, m6_lock_Ask_K4, if_neg ff, insR_ok _ hpl (by omega), bind1_some]
      by_cases c : posS t item < t.length
      · have hx := hg.rt _ (List.getElem_mem c)
        have := hx.i0
        have := hx.i1
        have hp := pos_iff (item := item) hg.asc _ c
        rw [if_pos (by omega), idx_ok c, bind1_some, i64_ok (by omega) (by omega), bind1_some, m6_lock_Ask_K25, drop_cons c, insS]
        by_cases c2 : t[posS t item].Item = item
        · rw [if_neg (by omega), if_pos c2, show decide (t[posS t item].Item - item = 0) = true by simp; omega, m6_lock_Ask_K23, if_pos rfl, item_lock c hx hm, List.set_eq_take_append_cons_drop, if_pos c]
        · rw [if_pos (by omega), show decide (t[posS t item].Item - item = 0) = false by simp; omega, new, drop_cons c]
          simp
      · rw [if_neg (by omega), new, List.drop_eq_nil_of_le (by omega)]
        simp [insS]
  · rw [m6_lock_Ask_L7, m6_lock_Ask_L7B, if_neg (by omega)]
  · have hx := hg.rt _ (List.getElem_mem h)
    have := hx.ql
    rw [m6_lock_Ask_L7, m6_lock_Ask_L7B, if_pos (by omega), idx_ok h, bind1_some, scan00 (F := m6_lock_Ask_L8 t[i] tx (i : Nat) (m6_lock_Ask_L7 t tx item mode n)) (l := t[i].Queue) (by omega) (fun _ z => if decide (z.Tx = tx) = true then some (m6_lock_Ask_K28 (i : Nat) (m6_lock_Ask_L7 t tx item mode n) true) else none) (m6_lock_Ask_K28 (i : Nat) (m6_lock_Ask_L7 t tx item mode n) false) (fun n => ?_) (fun n j h => ?_), scanX_any]
    · rw [show (t[i].Queue.any fun z => decide (z.Tx = tx)) = hasTx t[i].Queue tx from rfl]
      cases hasTx t[i].Queue tx with
      | true => simp [m6_lock_Ask_K28]
      | false => simp only [m6_lock_Ask_K28, isucc i (by omega)]; simp
    · rw [m6_lock_Ask_L8, m6_lock_Ask_L8B, if_neg (by omega), m6_lock_Ask_K30, m6_lock_Ask_K29]; rfl
    · rw [m6_lock_Ask_L8, m6_lock_Ask_L8B, if_pos (by omega), idx_ok h, bind1_some, m6_lock_Ask_K31, isucc j (by omega), bind1_some]
      by_cases c : t[i].Queue[j].Tx = tx
      · simp [c, m6_lock_Ask_K29]
      · simp [c]
end
end Go.Proofs.Ytgkdimboofglfaa
