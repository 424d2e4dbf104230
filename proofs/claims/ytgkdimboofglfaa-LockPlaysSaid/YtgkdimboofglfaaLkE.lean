/-
  Package lock: Drop.
  Conditions: none.
-/
import Derived.Test.YtgkdimboofglfaaLkD
namespace Go.Proofs.Ytgkdimboofglfaa
open Go.S
set_option linter.unusedVariables false
set_option linter.unusedSimpArgs false
/-! ### What slices.DeleteFunc leaves -/
section
variable {α ρ : Type} {keep : α → Bool} {l0 : List α} {z : α}
theorem del_loop {F : Nat → List α → Int → Int → Option ρ} (hl : l0.length ≤ 1000000) (K : List α → Option ρ)
    (hend : ∀ n (l : List α) (i : Nat), l.length = l0.length → F (n + 1) l (i : Nat) (l.length : Nat) = bind1 (cut l (i : Nat) l.length) fun _ => bind1 (clr l (i : Nat) z) fun l59 => bind1 (cut l59 0 (i : Nat)) fun l60 => K l60)
    (hstep : ∀ n (l : List α) (i j : Nat) (h : j < l.length), l.length = l0.length → F (n + 1) l (i : Nat) (j : Nat) = if keep l[j] = true then bind1 (idx l (i : Nat)) fun _ => bind1 (upd l (i : Nat) l[j]) fun l67 => bind1 (i64 ((i : Nat) + 1)) fun x68 => bind1 (i64 ((j : Nat) + 1)) fun x69 => F n l67 x68 x69 else bind1 (i64 ((j : Nat) + 1)) fun x70 => F n l (i : Nat) x70) :
    ∀ (r j : Nat), j + r = l0.length → ∀ (l : List α) (i : Nat) (n : Nat), r < n → i < j → l.length = l0.length → l.take i = (l0.take j).filter keep → l.drop j = l0.drop j → F n l (i : Nat) (j : Nat) = K (l0.filter keep) := by
  intro r
  induction r with
  | zero =>
    intro j hj l i n hn hij hll ht hd
    obtain ⟨n, rfl⟩ := dec n hn
    have e : j = l.length := by omega
    subst e
    have e1 : l0.take l.length = l0 := List.take_of_length_le (by omega)
    rw [e1] at ht
    have e2 : (l.take i ++ List.replicate (l.length - i) z).take i = l.take i := List.take_left' (by rw [List.length_take]; omega)
    rw [hend n l i hll, cut_drop _ _ (by omega), bind1_some, clr_ok _ _ _ (by omega), bind1_some, cut_take _ _ (by rw [List.length_append, List.length_take, List.length_replicate]; omega), bind1_some, e2, ht]
  | succ r ih =>
    intro j hj l i n hn hij hll ht hd
    obtain ⟨n, rfl⟩ := dec n (by omega)
    have h1 : j < l.length := by omega
    have h2 : j < l0.length := by omega
    have e1 : l[j] = l0[j] := by
      have h3 := congrArg List.head? hd
      rw [drop_cons h1, drop_cons h2] at h3
      exact Option.some.inj h3
    have e2 : l.drop (j + 1) = l0.drop (j + 1) := by
      have h3 := congrArg List.tail hd
      rw [drop_cons h1, drop_cons h2] at h3
      exact h3
    rw [hstep n l i j h1 hll, e1]
    by_cases c : keep l0[j] = true
    · rw [if_pos c, idx_ok (by omega), bind1_some, upd_ok _ (by omega), bind1_some, isucc i (by omega), bind1_some, isucc j (by omega), bind1_some]
      refine ih (j + 1) (by omega) _ (i + 1) n (by omega) (by omega) (by simpa using hll) ?_ ?_
      · rw [take_snoc (by simp; omega), List.getElem_set_self, List.take_set_of_le (Nat.le_refl _), ht, take_snoc h2, List.filter_append]
        simp [c]
      · rw [List.drop_set_of_lt (by omega), e2]
    · rw [if_neg c, isucc j (by omega), bind1_some]
      refine ih (j + 1) (by omega) l i n (by omega) (by omega) hll ?_ e2
      rw [ht, take_snoc h2, List.filter_append]
      simp [c]
theorem del_all {F1 : Nat → Int → Option ρ} {F : Nat → List α → Int → Int → Option ρ} (hl : l0.length ≤ 1000000) (K : List α → Option ρ)
    (hend : ∀ n (l : List α) (i : Nat), l.length = l0.length → F (n + 1) l (i : Nat) (l.length : Nat) = bind1 (cut l (i : Nat) l.length) fun _ => bind1 (clr l (i : Nat) z) fun l59 => bind1 (cut l59 0 (i : Nat)) fun l60 => K l60)
    (hstep : ∀ n (l : List α) (i j : Nat) (h : j < l.length), l.length = l0.length → F (n + 1) l (i : Nat) (j : Nat) = if keep l[j] = true then bind1 (idx l (i : Nat)) fun _ => bind1 (upd l (i : Nat) l[j]) fun l67 => bind1 (i64 ((i : Nat) + 1)) fun x68 => bind1 (i64 ((j : Nat) + 1)) fun x69 => F n l67 x68 x69 else bind1 (i64 ((j : Nat) + 1)) fun x70 => F n l (i : Nat) x70)
    (hend1 : ∀ n, F1 (n + 1) (l0.length : Nat) = K l0)
    (hstep1 : ∀ n i (h : i < l0.length), F1 (n + 1) (i : Nat) = if keep l0[i] = true then bind1 (i64 ((i : Nat) + 1)) fun x => F1 n x else bind1 (i64 ((i : Nat) + 1)) fun x => F big l0 (i : Nat) x) : F1 big 0 = K (l0.filter keep) := by
  have key : ∀ (r i : Nat), i + r = l0.length → (∀ q (h : q < l0.length), q < i → keep l0[q] = true) → ∀ n, r < n → F1 n (i : Nat) = K (l0.filter keep) := by
    intro r
    induction r with
    | zero =>
      intro i hi hk n hn
      obtain ⟨n, rfl⟩ := dec n hn
      obtain rfl : i = l0.length := by omega
      rw [hend1, List.filter_eq_self.2]
      intro x hx
      obtain ⟨q, hq, rfl⟩ := List.getElem_of_mem hx
      exact hk q hq hq
    | succ r ih =>
      intro i hi hk n hn
      obtain ⟨n, rfl⟩ := dec n (by omega)
      have h1 : i < l0.length := by omega
      rw [hstep1 n i h1]
      by_cases c : keep l0[i] = true
      · rw [if_pos c, isucc i (by omega), bind1_some]
        refine ih (i + 1) (by omega) (fun q hq hqi => ?_) n (by omega)
        by_cases c2 : q = i
        · subst c2; exact c
        · exact hk q hq (by omega)
      · rw [if_neg c, isucc i (by omega), bind1_some]
        refine del_loop hl K hend hstep (l0.length - (i + 1)) (i + 1) (by omega) l0 i big (lt_big (by omega)) (by omega) rfl ?_ rfl
        rw [take_snoc h1, List.filter_append, List.filter_eq_self.2]
        · simp [c]
        · intro x hx
          obtain ⟨q, hq, rfl⟩ := List.getElem_of_mem hx
          rw [List.getElem_take]
          rw [List.length_take] at hq
          exact hk q (by omega) (by omega)
  exact key l0.length 0 (by omega) (fun q h h2 => absurd h2 (by omega)) big (lt_big (by omega))
end
theorem scan_filter {α ρ : Type} (p : α → Bool) (E : List α → Option ρ) : ∀ (l : List α) (i : Nat) (s : List α), scanR (fun _ x s => .inr (if p x = true then s ++ [x] else s)) E i l s = E (s ++ l.filter p)
  | [], i, s => by simp [scanR]
  | x :: l, i, s => (scan_filter p E l (i + 1) _).trans (by
    by_cases c : p x = true
    · rw [if_pos c, List.filter_cons, if_pos c]; simp
    · rw [if_neg c, List.filter_cons, if_neg c])

/-! ### What is given to those that wait -/
def without (l : List TLock) (tx : Int) : List TLock := l.filter fun a => !decide (a.Tx = tx)
def dropQ : List TLock → List TLock → List Int → List TLock × List TLock × List Int
  | H, [], g => (H, [], g)
  | H, q :: Q, g => if canS H q = true then dropQ (giveL H q) Q (g ++ [q.Tx]) else (H, q :: Q, g)
def dropT (tx : Int) : List TLockItem → List TLockItem → List Int → List TLockItem × List Int
  | [], out, g => (out, g)
  | x :: t, out, g => dropT tx t (if (dropQ (without x.Held tx) (without x.Queue tx) g).1.isEmpty = true then out else out ++ [⟨x.Item, (dropQ (without x.Held tx) (without x.Queue tx) g).1, (dropQ (without x.Held tx) (without x.Queue tx) g).2.1⟩]) (dropQ (without x.Held tx) (without x.Queue tx) g).2.2
def dropS (t : List TLockItem) (tx : Int) : List TLockItem × List Int := dropT tx t [] []
theorem give_mds {H : List TLock} {a : TLock} (hm : Mds H) (ha : Md a.Mode) : Mds (giveL H a) := by
  unfold giveL
  split
  · intro z hz
    obtain ⟨y, hy, rfl⟩ := List.mem_map.1 hz
    split
    · exact wish_md hm ha
    · exact hm y hy
  · intro z hz
    rcases List.mem_append.1 hz with hz | hz
    · exact hm z hz
    · simp only [List.mem_singleton] at hz
      subst hz
      exact wish_md hm ha
theorem give_len (H : List TLock) (a : TLock) : (giveL H a).length ≤ H.length + 1 := by
  unfold giveL
  split <;> simp
theorem give_ds {H : List TLock} {a : TLock} (hd : Ds H) : Ds (giveL H a) := by
  unfold giveL
  split
  · unfold Ds
    rw [List.pairwise_map]
    refine hd.imp ?_
    intro x y hxy
    split <;> split <;> exact hxy
  · rename_i c
    unfold Ds
    rw [List.pairwise_append]
    refine ⟨hd, by simp, fun x hx y hy => ?_⟩
    simp only [List.mem_singleton] at hy
    subst hy
    exact hasTx_false.1 (by simpa using c) x hx
theorem dropQ_len : ∀ (Q H : List TLock) (g : List Int), (dropQ H Q g).2.2.length ≤ g.length + Q.length
  | [], H, g => by simp [dropQ]
  | q :: Q, H, g => by
    rw [dropQ]
    split
    · have := dropQ_len Q (giveL H q) (g ++ [q.Tx])
      simp only [List.length_append, List.length_cons, List.length_nil] at this ⊢
      omega
    · simp
section
variable {x : TLockItem} {out : List TLockItem} {i : Int} {go : List TLockItem → List Int → Int → Option (List TLockItem × List Int × Int)}
theorem queue_lock' : ∀ (Q H : List TLock) (g : List Int) (n : Nat), Q.length < n → Mds H → Ds H → Mds Q → H.length + Q.length ≤ 1000 → g.length + Q.length ≤ 1000000 →
    m7_lock_Drop_L2 x out i go n g H Q = m7_lock_Drop_K6 out x i go (dropQ H Q g).2.2 (dropQ H Q g).1 (dropQ H Q g).2.1 := by
  intro Q
  induction Q with
  | nil =>
    intro H g n hn hm hd hq h1 h2
    obtain ⟨n, rfl⟩ := dec n (by omega)
    rw [m7_lock_Drop_L2, m7_lock_Drop_L2B, if_neg (by simp), dropQ]
  | cons q Q ih =>
    intro H g n hn hm hd hq h1 h2
    simp only [List.length_cons] at hn h1 h2
    obtain ⟨n, rfl⟩ := dec n (by omega)
    have e0 : idx (q :: Q) 0 = some q := rfl
    have hqm : Md q.Mode := hq q (by simp)
    have hL : Ln H := by unfold Ln; omega
    have hcut : cut (q :: Q) 1 (q :: Q).length = some Q := by
      have := cut_drop (q :: Q) 1 (by simp)
      simpa using this
    rw [m7_lock_Drop_L2, m7_lock_Drop_L2B, if_pos (by simp only [List.length_cons]; omega), e0, bind1_some, can_lock ⟨x.Item, H, q :: Q⟩ q hL hm hqm, bind1_some, dropQ]
    have e1 : (⟨x.Item, H, q :: Q⟩ : TLockItem).Held = H := rfl
    rw [e1]
    cases c : canS H q with
    | false => rw [if_neg ff, if_neg ff]
    | true =>
      rw [if_pos rfl, if_pos rfl, m7_lock_Drop_K7, e0, bind1_some, wish_lock ⟨x.Item, H, q :: Q⟩ q hL hm hqm, bind1_some, e1, give_scan (F := m7_lock_Drop_L3 H q (wishS H q) (q :: Q) g (m7_lock_Drop_L2 x out i go n)) (H := H) (a := q) (m := wishS H q) (by omega) hd (fun l => m7_lock_Drop_K8 (q :: Q) g (m7_lock_Drop_L2 x out i go n) l) (m7_lock_Drop_K9 H q (wishS H q) (q :: Q) g (m7_lock_Drop_L2 x out i go n)) (fun n => ?_) (fun n i h => ?_)]
      · have e2 : (if hasTx H q.Tx = true then m7_lock_Drop_K8 (q :: Q) g (m7_lock_Drop_L2 x out i go n) (H.map fun h => if h.Tx = q.Tx then ⟨h.Tx, wishS H q⟩ else h) else m7_lock_Drop_K9 H q (wishS H q) (q :: Q) g (m7_lock_Drop_L2 x out i go n)) = m7_lock_Drop_K8 (q :: Q) g (m7_lock_Drop_L2 x out i go n) (giveL H q) := by
          unfold giveL
          split
          · rfl
          · rw [m7_lock_Drop_K9, app_ok (by simp; omega), bind1_some]
        have hgl := give_len H q
        rw [e2, m7_lock_Drop_K8, e0, bind1_some, app_ok (by simp; omega), bind1_some, hcut, bind1_some]
        exact ih (giveL H q) (g ++ [q.Tx]) n (by omega) (give_mds hm hqm) (give_ds hd) (fun z hz => hq z (by simp [hz])) (by omega) (by simp; omega)
      · rw [m7_lock_Drop_L3, m7_lock_Drop_L3B, if_neg (by omega)]
      · rw [m7_lock_Drop_L3, m7_lock_Drop_L3B, if_pos (by omega), idx_ok h, bind1_some, bind1_some]
end
section
variable {out : List TLockItem} {i : Int} {go : List TLockItem → List Int → Int → Option (List TLockItem × List Int)}
theorem queue_ref (item : Int) : ∀ (Q H : List TLock) (g : List Int) (n : Nat), Q.length < n → Mds H → Mds Q → H.length + Q.length ≤ 1000 → g.length + Q.length ≤ 1000000 →
    m12_quirref_DropLocks_L2 out i go n g item H Q = m12_quirref_DropLocks_K5 out i go (dropQ H Q g).2.2 item (dropQ H Q g).1 (dropQ H Q g).2.1 := by
  intro Q
  induction Q with
  | nil =>
    intro H g n hn hm hq h1 h2
    obtain ⟨n, rfl⟩ := dec n (by omega)
    rw [m12_quirref_DropLocks_L2, m12_quirref_DropLocks_L2B, if_neg (by simp), dropQ]
  | cons q Q ih =>
    intro H g n hn hm hq h1 h2
    simp only [List.length_cons] at hn h1 h2
    obtain ⟨n, rfl⟩ := dec n (by omega)
    have e0 : idx (q :: Q) 0 = some q := rfl
    have hqm : Md q.Mode := hq q (by simp)
    have hL : Ln H := by unfold Ln; omega
    have hcut : cut (q :: Q) 1 (q :: Q).length = some Q := by
      have := cut_drop (q :: Q) 1 (by simp)
      simpa using this
    have hgl := give_len H q
    have e1 : (⟨item, H, q :: Q⟩ : TLockItem).Held = H := rfl
    rw [m12_quirref_DropLocks_L2, m12_quirref_DropLocks_L2B, if_pos (by simp only [List.length_cons]; omega), e0, bind1_some, can_ref ⟨item, H, q :: Q⟩ q hL hm hqm, bind1_some, dropQ, e1]
    cases c : canS H q with
    | false => rw [if_neg ff, if_neg ff]
    | true =>
      have hgq : m42_quirref_given ⟨item, H, q :: Q⟩ q = some ⟨item, giveL H q, q :: Q⟩ := given_eq ⟨item, H, q :: Q⟩ q (by simp only; omega) hm hqm
      rw [if_pos rfl, if_pos rfl, m12_quirref_DropLocks_K6, e0, bind1_some, app_ok (by simp; omega), bind1_some, bind1_some, hgq, bind1_some]
      simp only
      rw [hcut, bind1_some]
      exact ih (giveL H q) (g ++ [q.Tx]) n (by omega) (give_mds hm hqm) (fun z hz => hq z (by simp [hz])) (by omega) (by simp; omega)
end
theorem without_mds {l : List TLock} (h : Mds l) (tx : Int) : Mds (without l tx) := fun z hz => h z (List.mem_filter.1 hz).1
theorem without_ds {l : List TLock} (h : Ds l) (tx : Int) : Ds (without l tx) := h.filter _
theorem without_len (l : List TLock) (tx : Int) : (without l tx).length ≤ l.length := List.length_filter_le _ _
section
variable {t : List TLockItem} {tx : Int}
theorem items_lock (hg : Good t) : ∀ (r i : Nat), i + r = t.length → ∀ n, r < n → ∀ (out : List TLockItem) (g : List Int), out.length ≤ i → g.length ≤ 12 * i →
    m7_lock_Drop_L1 t tx n out g (i : Nat) = some ((dropT tx (t.drop i) out g).1, (dropT tx (t.drop i) out g).2, 0) := by
  have hl := hg.len
  intro r
  induction r with
  | zero =>
    intro i hi n hn out g ho hgl
    obtain ⟨n, rfl⟩ := dec n hn
    rw [m7_lock_Drop_L1, m7_lock_Drop_L1B, if_neg (by omega), m7_lock_Drop_K3, List.drop_eq_nil_of_le (by omega)]
    rfl
  | succ r ih =>
    intro i hi n hn out g ho hgl
    obtain ⟨n, rfl⟩ := dec n (by omega)
    have h1 : i < t.length := by omega
    have hx := hg.rt _ (List.getElem_mem h1)
    rw [m7_lock_Drop_L1, m7_lock_Drop_L1B, if_pos (by omega), idx_ok h1, bind1_some, drop_cons h1, dropT]
    generalize t[i] = x at hx
    have hh := hx.hl
    have hq := hx.ql
    have hwh := without_len x.Held tx
    have hwq := without_len x.Queue tx
    have hend := dropQ_len (without x.Queue tx) (without x.Held tx) g
    rw [del_all (F1 := m7_lock_Drop_L7 x tx out (i : Nat) (m7_lock_Drop_L1 t tx n) g) (F := m7_lock_Drop_L6 tx x out (i : Nat) (m7_lock_Drop_L1 t tx n) g) (l0 := x.Held) (keep := fun a => !decide (a.Tx = tx)) (z := ⟨0, 0⟩) (by omega) (fun l => m7_lock_Drop_K10 x tx out (i : Nat) (m7_lock_Drop_L1 t tx n) g l)
      (fun n l i hll => ?_) (fun n l i j h hll => ?_) (fun n => ?_) (fun n i h => ?_)]
    · show m7_lock_Drop_K10 x tx out (i : Nat) (m7_lock_Drop_L1 t tx n) g (without x.Held tx) = _
      rw [m7_lock_Drop_K10, del_all (F1 := m7_lock_Drop_L5 x tx out (i : Nat) (m7_lock_Drop_L1 t tx n) g (without x.Held tx)) (F := m7_lock_Drop_L4 tx x out (i : Nat) (m7_lock_Drop_L1 t tx n) g (without x.Held tx)) (l0 := x.Queue) (keep := fun a => !decide (a.Tx = tx)) (z := ⟨0, 0⟩) (by omega) (fun l => m7_lock_Drop_K11 x out (i : Nat) (m7_lock_Drop_L1 t tx n) g (without x.Held tx) l)
        (fun n l i hll => ?_) (fun n l i j h hll => ?_) (fun n => ?_) (fun n i h => ?_)]
      · rw [m7_lock_Drop_K11, m7_lock_Drop_K5]
        have hq2 := queue_lock' (x := x) (out := out) (i := (i : Nat)) (go := m7_lock_Drop_L1 t tx n) (without x.Queue tx) (without x.Held tx) g big (lt_big (by omega)) (without_mds hx.hm tx) (without_ds ((ok_iff0 _).1 hx.held).2 tx) (without_mds hx.qm tx) (by omega) (by omega)
        rw [show x.Queue.filter (fun a => !decide (a.Tx = tx)) = without x.Queue tx from rfl, hq2, m7_lock_Drop_K6]
        generalize dropQ (without x.Held tx) (without x.Queue tx) g = z at hend
        obtain ⟨H, Q, g2⟩ := z
        simp only at hend ⊢
        cases H with
        | nil =>
          rw [if_neg (by simp), m7_lock_Drop_K4, isucc i (by omega), bind1_some, ih (i + 1) (by omega) n (by omega) _ _ (by omega) (by omega)]
          rfl
        | cons y H =>
          rw [if_pos (by simp only [List.length_cons]; omega), app_ok (by simp; omega), bind1_some, m7_lock_Drop_K4, isucc i (by omega), bind1_some, ih (i + 1) (by omega) n (by omega) _ _ (by simp; omega) (by omega)]
          rfl
      · rw [m7_lock_Drop_L4, m7_lock_Drop_L4B, if_neg (by omega), m7_lock_Drop_K14]
      · rw [m7_lock_Drop_L4, m7_lock_Drop_L4B, if_pos (by omega), m7_lock_Drop_K15, idx_ok h, bind1_some, m7_lock_Drop_K16]
      · rw [m7_lock_Drop_L5, m7_lock_Drop_L5B, if_neg (by omega), m7_lock_Drop_K17, m7_lock_Drop_K12, if_pos rfl]
      · rw [m7_lock_Drop_L5, m7_lock_Drop_L5B, if_pos (by omega), idx_ok h, bind1_some, m7_lock_Drop_K18, m7_lock_Drop_K12, if_neg (show ¬((i : Nat) : Int) = -1 by omega), m7_lock_Drop_K13]
        by_cases c : x.Queue[i].Tx = tx <;> simp [c]
    · rw [m7_lock_Drop_L6, m7_lock_Drop_L6B, if_neg (by omega), m7_lock_Drop_K21]
    · rw [m7_lock_Drop_L6, m7_lock_Drop_L6B, if_pos (by omega), m7_lock_Drop_K22, idx_ok h, bind1_some, m7_lock_Drop_K23]
    · rw [m7_lock_Drop_L7, m7_lock_Drop_L7B, if_neg (by omega), m7_lock_Drop_K24, m7_lock_Drop_K19, if_pos rfl]
    · rw [m7_lock_Drop_L7, m7_lock_Drop_L7B, if_pos (by omega), idx_ok h, bind1_some, m7_lock_Drop_K25, m7_lock_Drop_K19, if_neg (show ¬((i : Nat) : Int) = -1 by omega), m7_lock_Drop_K20]
      by_cases c : x.Held[i].Tx = tx <;> simp [c]
theorem items_ref (hg : Good t) : ∀ (r i : Nat), i + r = t.length → ∀ n, r < n → ∀ (out : List TLockItem) (g : List Int), out.length ≤ i → g.length ≤ 12 * i →
    m12_quirref_DropLocks_L1 t tx n out g (i : Nat) = some (dropT tx (t.drop i) out g) := by
  have hl := hg.len
  intro r
  induction r with
  | zero =>
    intro i hi n hn out g ho hgl
    obtain ⟨n, rfl⟩ := dec n hn
    rw [m12_quirref_DropLocks_L1, m12_quirref_DropLocks_L1B, if_neg (by omega), m12_quirref_DropLocks_K1, List.drop_eq_nil_of_le (by omega)]
    rfl
  | succ r ih =>
    intro i hi n hn out g ho hgl
    obtain ⟨n, rfl⟩ := dec n (by omega)
    have h1 : i < t.length := by omega
    have hx := hg.rt _ (List.getElem_mem h1)
    rw [m12_quirref_DropLocks_L1, m12_quirref_DropLocks_L1B, if_pos (by omega), idx_ok h1, bind1_some, drop_cons h1, dropT]
    generalize t[i] = x at hx
    have hh := hx.hl
    have hq := hx.ql
    have hwh := without_len x.Held tx
    have hwq := without_len x.Queue tx
    have hend := dropQ_len (without x.Queue tx) (without x.Held tx) g
    have s1 := scanS0 (F := fun m j s => m12_quirref_DropLocks_L4 x tx out (i : Nat) (m12_quirref_DropLocks_L1 t tx n) g m s j) (l := x.Held) (by omega) (X := fun _ a s => .inr (if (!decide (a.Tx = tx)) = true then s ++ [a] else s)) (E := fun s => m12_quirref_DropLocks_K8 x tx out (i : Nat) (m12_quirref_DropLocks_L1 t tx n) g s) (fun j s => s.length ≤ j) (fun m s hs => ?_) (fun m j s hj hs => ?_) (fun j s s' hj hs he => ?_) [] (Nat.le_refl _)
    · rw [scan_filter, List.nil_append] at s1
      rw [show m12_quirref_DropLocks_L4 x tx out (i : Nat) (m12_quirref_DropLocks_L1 t tx n) g big [] 0 = _ from s1, m12_quirref_DropLocks_K8, m12_quirref_DropLocks_K3]
      have s2 := scanS0 (F := fun m j s => m12_quirref_DropLocks_L3 x tx out (i : Nat) (m12_quirref_DropLocks_L1 t tx n) g (without x.Held tx) m s j) (l := x.Queue) (by omega) (X := fun _ a s => .inr (if (!decide (a.Tx = tx)) = true then s ++ [a] else s)) (E := fun s => m12_quirref_DropLocks_K7 out (i : Nat) (m12_quirref_DropLocks_L1 t tx n) g x (without x.Held tx) s) (fun j s => s.length ≤ j) (fun m s hs => ?_) (fun m j s hj hs => ?_) (fun j s s' hj hs he => ?_) [] (Nat.le_refl _)
      · rw [scan_filter, List.nil_append] at s2
        rw [show x.Held.filter (fun a => !decide (a.Tx = tx)) = without x.Held tx from rfl, show m12_quirref_DropLocks_L3 x tx out (i : Nat) (m12_quirref_DropLocks_L1 t tx n) g (without x.Held tx) big [] 0 = _ from s2, m12_quirref_DropLocks_K7, m12_quirref_DropLocks_K4]
        have hq2 := queue_ref (out := out) (i := (i : Nat)) (go := m12_quirref_DropLocks_L1 t tx n) x.Item (without x.Queue tx) (without x.Held tx) g big (lt_big (by omega)) (without_mds hx.hm tx) (without_mds hx.qm tx) (by omega) (by omega)
        rw [show x.Queue.filter (fun a => !decide (a.Tx = tx)) = without x.Queue tx from rfl, hq2, m12_quirref_DropLocks_K5]
        generalize dropQ (without x.Held tx) (without x.Queue tx) g = z at hend
        obtain ⟨H, Q, g2⟩ := z
        simp only at hend ⊢
        cases H with
        | nil =>
          rw [if_neg (by simp), m12_quirref_DropLocks_K2, isucc i (by omega), bind1_some, ih (i + 1) (by omega) n (by omega) _ _ (by omega) (by omega)]
          rfl
        | cons y H =>
          rw [if_pos (by simp only [List.length_cons]; omega), app_ok (by simp; omega), bind1_some, m12_quirref_DropLocks_K2, isucc i (by omega), bind1_some, ih (i + 1) (by omega) n (by omega) _ _ (by simp; omega) (by omega)]
          rfl
      · show m12_quirref_DropLocks_L3 x tx out (i : Nat) (m12_quirref_DropLocks_L1 t tx n) g (without x.Held tx) (m + 1) s (x.Queue.length : Nat) = _
        rw [m12_quirref_DropLocks_L3, m12_quirref_DropLocks_L3B, if_neg (by omega)]
      · show m12_quirref_DropLocks_L3 x tx out (i : Nat) (m12_quirref_DropLocks_L1 t tx n) g (without x.Held tx) (m + 1) s (j : Nat) = _
        rw [m12_quirref_DropLocks_L3, m12_quirref_DropLocks_L3B, if_pos (by omega), idx_ok hj, bind1_some, isucc j (by omega)]
        by_cases c : x.Queue[j].Tx = tx
        · simp [c]
        · rw [if_pos c, app_ok (by simp; omega)]; simp [c]
      · cases he
        split
        · simp; omega
        · omega
    · show m12_quirref_DropLocks_L4 x tx out (i : Nat) (m12_quirref_DropLocks_L1 t tx n) g (m + 1) s (x.Held.length : Nat) = _
      rw [m12_quirref_DropLocks_L4, m12_quirref_DropLocks_L4B, if_neg (by omega)]
    · show m12_quirref_DropLocks_L4 x tx out (i : Nat) (m12_quirref_DropLocks_L1 t tx n) g (m + 1) s (j : Nat) = _
      rw [m12_quirref_DropLocks_L4, m12_quirref_DropLocks_L4B, if_pos (by omega), idx_ok hj, bind1_some, isucc j (by omega)]
      by_cases c : x.Held[j].Tx = tx
      · simp [c]
      · rw [if_pos c, app_ok (by simp; omega)]; simp [c]
    · cases he
      split
      · simp; omega
      · omega
theorem drop_lock (hg : Good t) (h0 : 0 ≤ tx) (h1 : tx ≤ 11) : m7_lock_Drop t tx = some ((dropS t tx).1, (dropS t tx).2, 0) := by
  have hl := hg.len
  have hchk := check_lock t (by unfold Ln; omega) (fun x hx => by
    have := (hg.rt x hx).hl
    have := (hg.rt x hx).ql
    unfold Ln; omega)
  rw [(good_iff t).2 hg] at hchk
  rw [m7_lock_Drop, hchk, bind1_some, if_neg (by simp), m7_lock_Drop_K1, if_neg (by omega), if_neg (by omega), m7_lock_Drop_K2, copied_eq hl (fun x hx => ⟨(hg.rt x hx).hl, (hg.rt x hx).ql⟩), bind1_some]
  have := items_lock (tx := tx) hg t.length 0 (by omega) big (lt_big (by omega)) [] [] (by simp) (by simp)
  rw [List.drop_zero] at this
  exact this
theorem drop_ref (hg : Good t) : m12_quirref_DropLocks t tx = some (dropS t tx) := by
  have hl := hg.len
  rw [m12_quirref_DropLocks]
  have := items_ref (tx := tx) hg t.length 0 (by omega) big (lt_big (by omega)) [] [] (by simp) (by simp)
  rw [List.drop_zero] at this
  exact this
end
end Go.Proofs.Ytgkdimboofglfaa
