/-
  Package lock: Waits.
  Conditions: none.
-/
import Derived.Test.YtgkdimboofglfaaLkE
namespace Go.Proofs.Ytgkdimboofglfaa
open Go.S
set_option linter.unusedVariables false
set_option linter.unusedSimpArgs false
/-! ### Edges out of a table of truths -/
/-- The edges from a on, from a, b on. -/
def rowE (T : Int → Int → Bool) (a : Int) : Nat → Nat → List TEdge
  | _, 0 => []
  | b, r + 1 => (if T a (b : Int) = true then [⟨a, (b : Int)⟩] else []) ++ rowE T a (b + 1) r
def allE (T : Int → Int → Bool) : Nat → Nat → List TEdge
  | _, 0 => []
  | a, r + 1 => rowE T (a : Int) 0 12 ++ allE T (a + 1) r
theorem rowE_len (T : Int → Int → Bool) (a : Int) : ∀ r b : Nat, (rowE T a b r).length ≤ r
  | 0, b => by simp [rowE]
  | r + 1, b => by
    have := rowE_len T a r (b + 1)
    rw [rowE, List.length_append]
    split <;> simp <;> omega
theorem allE_len (T : Int → Int → Bool) : ∀ r a : Nat, (allE T a r).length ≤ 12 * r
  | 0, a => by simp [allE]
  | r + 1, a => by
    have h1 := allE_len T r (a + 1)
    have h2 := rowE_len T (a : Int) 12 0
    rw [allE, List.length_append]
    omega
theorem rowE_ext {T U : Int → Int → Bool} {a : Int} : ∀ (r b : Nat), (∀ c : Int, (b : Int) ≤ c → c < b + r → T a c = U a c) → rowE T a b r = rowE U a b r
  | 0, b, _ => rfl
  | r + 1, b, h => by rw [rowE, rowE, h b (by omega) (by omega), rowE_ext r (b + 1) fun c h1 h2 => h c (by omega) (by omega)]
theorem allE_ext {T U : Int → Int → Bool} : ∀ (r a : Nat), (∀ c d : Int, (a : Int) ≤ c → c < a + r → 0 ≤ d → d < 12 → T c d = U c d) → allE T a r = allE U a r
  | 0, a, _ => rfl
  | r + 1, a, h => by
    rw [allE, allE, rowE_ext 12 0 fun c h1 h2 => h a c (by omega) (by omega) (by omega) (by omega), allE_ext r (a + 1) fun c d h1 h2 => h c d (by omega) (by omega)]
theorem idx2_tab {α : Type} {f : Int → α} {a b : Int} (h0 : 0 ≤ a) (h1 : a < 12) (g0 : 0 ≤ b) (g1 : b < 12) : idx2 12 (tab 144 f) a b = some (f (a * 12 + b)) := by
  unfold idx2
  rw [if_pos ⟨h0, g0, by omega⟩]
  exact tab_idx (by omega) (by omega)
theorem rng_ok {n : Nat} {a : Int} (h0 : 0 ≤ a) (h1 : a < n) : rng n a = some () := if_pos ⟨h0, h1⟩
/-! ### The table of the program -/
def hitH (H : List TLock) (w h : TLock) (c : Int) : Bool := decide (c = w.Tx * 12 + h.Tx) && decide (h.Tx ≠ w.Tx) && !fitS (wishS H w) h.Mode
def hitQ (w v : TLock) (c : Int) : Bool := decide (c = w.Tx * 12 + v.Tx)
def qTab (x : TLockItem) : Nat → List TLock → Int → Bool
  | _, [], _ => false
  | i, w :: Q, c => (x.Held.any fun h => hitH x.Held w h c) || ((x.Queue.take i).any fun v => hitQ w v c) || qTab x (i + 1) Q c
def tTab : List TLockItem → Int → Bool
  | [], _ => false
  | x :: t, c => qTab x 0 x.Queue c || tTab t c
section
variable {x : TLockItem} {w : TLock} {g : Int} {go : Int → List Bool → Option (List TEdge × Int)}
theorem tx_in {l : List TLock} (h : okS [] l = true) {a : TLock} (ha : a ∈ l) : 0 ≤ a.Tx ∧ a.Tx < 12 := by
  have := (lv_iff _).1 (((ok_iff0 l).1 h).1 a ha)
  omega
theorem held_loop (hx : Rt x) (hw : w ∈ x.Queue) : ∀ (r j : Nat), j + r = x.Held.length → ∀ (f : Int → Bool) n, r < n →
    m8_lock_Waits_L6 x w (wishS x.Held w) g go n (j : Nat) (tab 144 f) = m8_lock_Waits_K7 x g w go (tab 144 fun c => f c || (x.Held.drop j).any fun h => hitH x.Held w h c) := by
  have hl := hx.hl
  obtain ⟨w0, w1⟩ := tx_in hx.queue hw
  intro r
  induction r with
  | zero =>
    intro j hj f n hn
    obtain ⟨n, rfl⟩ := dec n hn
    rw [m8_lock_Waits_L6, m8_lock_Waits_L6B, if_neg (by omega), List.drop_eq_nil_of_le (by omega)]
    congr 1
    apply tab_ext
    intro c _ _
    simp
  | succ r ih =>
    intro j hj f n hn
    obtain ⟨n, rfl⟩ := dec n (by omega)
    have h1 : j < x.Held.length := by omega
    have hm := List.getElem_mem h1
    obtain ⟨g0, g1⟩ := tx_in hx.held hm
    have hmode := hx.hm _ hm
    rw [m8_lock_Waits_L6, m8_lock_Waits_L6B, if_pos (by omega), idx_ok h1, bind1_some]
    have hfin : ∀ f' : Int → Bool, (∀ c, f' c = (f c || hitH x.Held w x.Held[j] c)) → m8_lock_Waits_L6 x w (wishS x.Held w) g go n ((j + 1 : Nat) : Int) (tab 144 f') = m8_lock_Waits_K7 x g w go (tab 144 fun c => f c || (x.Held.drop j).any fun h => hitH x.Held w h c) := by
      intro f' hf
      rw [ih (j + 1) (by omega) f' n (by omega)]
      congr 1
      apply tab_ext
      intro c _ _
      rw [drop_cons h1, List.any_cons, hf, Bool.or_assoc]
    generalize x.Held[j] = h at *
    rw [rng_ok w0 w1, bind1_some, rng_ok g0 g1, bind1_some, tab_idx (by omega) (by omega), bind1_some, isucc j (by omega)]
    by_cases c1 : f (w.Tx * (12 : Nat) + h.Tx) = true
    · rw [if_pos c1, bind1_some, bind1_some, bind1_some, tab_upd _ (by omega) (by omega), bind1_some, bind1_some]
      refine hfin _ fun c => ?_
      by_cases c2 : c = w.Tx * (12 : Nat) + h.Tx
      · rw [if_pos c2, c2, c1]; rfl
      · rw [if_neg c2]
        have : hitH x.Held w h c = false := by unfold hitH; rw [show decide (c = w.Tx * 12 + h.Tx) = false by simpa using c2]; rfl
        rw [this, Bool.or_false]
    · rw [if_neg c1]
      have c1' : f (w.Tx * (12 : Nat) + h.Tx) = false := by simpa using c1
      by_cases c3 : h.Tx = w.Tx
      · rw [if_neg (by simpa using c3), bind1_some, bind1_some, bind1_some, tab_upd _ (by omega) (by omega), bind1_some, bind1_some]
        refine hfin _ fun c => ?_
        have : hitH x.Held w h c = false := by unfold hitH; rw [show decide (h.Tx ≠ w.Tx) = false by simpa using c3]; simp
        rw [this, Bool.or_false]
        by_cases c2 : c = w.Tx * (12 : Nat) + h.Tx
        · rw [if_pos c2, c2, c1']
        · rw [if_neg c2]
      · obtain ⟨ff', zz, e1, e2, e3⟩ := fits_bits (wish_md hx.hm (hx.qm w hw)) hmode
        rw [if_pos c3, bind1_some, e1, bind1_some, e2, bind1_some, bind1_some, bind1_some, tab_upd _ (by omega) (by omega), bind1_some, bind1_some, e3]
        refine hfin _ fun c => ?_
        unfold hitH
        by_cases c2 : c = w.Tx * (12 : Nat) + h.Tx
        · rw [if_pos c2, show decide (c = w.Tx * 12 + h.Tx) = true by simpa using c2, c2, c1']
          simp [c3]
        · rw [if_neg c2, show decide (c = w.Tx * 12 + h.Tx) = false by simpa using c2]
          simp
theorem front_loop (hx : Rt x) (hw : w ∈ x.Queue) (L : List TLock) (hL : ∀ v ∈ L, v ∈ x.Queue) (hl : L.length ≤ 12) : ∀ (r j : Nat), j + r = L.length → ∀ (f : Int → Bool) n, r < n →
    m8_lock_Waits_L5 L w g go n (j : Nat) (tab 144 f) = m8_lock_Waits_K6 g go (tab 144 fun c => f c || (L.drop j).any fun v => hitQ w v c) := by
  obtain ⟨w0, w1⟩ := tx_in hx.queue hw
  intro r
  induction r with
  | zero =>
    intro j hj f n hn
    obtain ⟨n, rfl⟩ := dec n hn
    rw [m8_lock_Waits_L5, m8_lock_Waits_L5B, if_neg (by omega), List.drop_eq_nil_of_le (by omega)]
    congr 1
    apply tab_ext
    intro c _ _
    simp
  | succ r ih =>
    intro j hj f n hn
    obtain ⟨n, rfl⟩ := dec n (by omega)
    have h1 : j < L.length := by omega
    obtain ⟨g0, g1⟩ := tx_in hx.queue (hL _ (List.getElem_mem h1))
    rw [m8_lock_Waits_L5, m8_lock_Waits_L5B, if_pos (by omega), idx_ok h1, bind1_some, rng_ok w0 w1, bind1_some, rng_ok g0 g1, bind1_some, tab_idx (by omega) (by omega), bind1_some, tab_upd _ (by omega) (by omega), bind1_some, isucc j (by omega), bind1_some, ih (j + 1) (by omega) _ n (by omega)]
    congr 1
    apply tab_ext
    intro c _ _
    rw [drop_cons h1, List.any_cons]
    unfold hitQ
    by_cases c2 : c = w.Tx * (12 : Nat) + L[j].Tx
    · rw [if_pos c2, show decide (c = w.Tx * 12 + L[j].Tx) = true by simpa using c2]; simp
    · rw [if_neg c2, show decide (c = w.Tx * 12 + L[j].Tx) = false by simpa using c2]; simp
theorem wait_loop (hx : Rt x) (go3 : Int → List Bool → Option (List TEdge × Int)) : ∀ (r i : Nat), i + r = x.Queue.length → ∀ (f : Int → Bool) n, r < n →
    m8_lock_Waits_L4 x g go3 n (i : Nat) (tab 144 f) = m8_lock_Waits_K5 g go3 (tab 144 fun c => f c || qTab x i (x.Queue.drop i) c) := by
  have hl := hx.hl
  have hq := hx.ql
  intro r
  induction r with
  | zero =>
    intro i hi f n hn
    obtain ⟨n, rfl⟩ := dec n hn
    rw [m8_lock_Waits_L4, m8_lock_Waits_L4B, if_neg (by omega), List.drop_eq_nil_of_le (by omega)]
    congr 1
    apply tab_ext
    intro c _ _
    simp [qTab]
  | succ r ih =>
    intro i hi f n hn
    obtain ⟨n, rfl⟩ := dec n (by omega)
    have h1 : i < x.Queue.length := by omega
    have hw := List.getElem_mem h1
    have h2 := held_loop (g := (i : Nat)) (go := m8_lock_Waits_L4 x g go3 n) hx hw x.Held.length 0 (by omega) f big (lt_big (by omega))
    rw [show ((0 : Nat) : Int) = 0 from rfl, List.drop_zero] at h2
    rw [m8_lock_Waits_L4, m8_lock_Waits_L4B, if_pos (by omega), idx_ok h1, bind1_some, wish_lock x _ (by unfold Ln; omega) hx.hm (hx.qm _ hw), bind1_some, h2, m8_lock_Waits_K7, cut_take _ _ (by omega), bind1_some]
    have h3 := front_loop (g := (i : Nat)) (go := m8_lock_Waits_L4 x g go3 n) hx hw (x.Queue.take i) (fun v hv => List.mem_of_mem_take hv) (by rw [List.length_take]; omega) (x.Queue.take i).length 0 (by omega) (fun c => f c || x.Held.any fun h => hitH x.Held x.Queue[i] h c) big (lt_big (by rw [List.length_take]; omega))
    rw [show ((0 : Nat) : Int) = 0 from rfl, List.drop_zero] at h3
    rw [h3, m8_lock_Waits_K6, isucc i (by omega), bind1_some, ih (i + 1) (by omega) _ n (by omega)]
    congr 1
    apply tab_ext
    intro c _ _
    rw [drop_cons h1, qTab, Bool.or_assoc, Bool.or_assoc, Bool.or_assoc]
end
section
variable {t : List TLockItem}
theorem table_loop (hg : Good t) : ∀ (r i : Nat), i + r = t.length → ∀ (f : Int → Bool) n, r < n →
    m8_lock_Waits_L3 t n (i : Nat) (tab 144 f) = m8_lock_Waits_K2 (tab 144 fun c => f c || tTab (t.drop i) c) := by
  have hl := hg.len
  intro r
  induction r with
  | zero =>
    intro i hi f n hn
    obtain ⟨n, rfl⟩ := dec n hn
    rw [m8_lock_Waits_L3, m8_lock_Waits_L3B, if_neg (by omega), List.drop_eq_nil_of_le (by omega)]
    congr 1
    apply tab_ext
    intro c _ _
    simp [tTab]
  | succ r ih =>
    intro i hi f n hn
    obtain ⟨n, rfl⟩ := dec n (by omega)
    have h1 : i < t.length := by omega
    have hx := hg.rt _ (List.getElem_mem h1)
    have h2 := wait_loop (g := (i : Nat)) hx (m8_lock_Waits_L3 t n) t[i].Queue.length 0 (by omega) f big (lt_big (by have := hx.ql; omega))
    rw [show ((0 : Nat) : Int) = 0 from rfl, List.drop_zero] at h2
    rw [m8_lock_Waits_L3, m8_lock_Waits_L3B, if_pos (by omega), idx_ok h1, bind1_some, h2, m8_lock_Waits_K5, isucc i (by omega), bind1_some, ih (i + 1) (by omega) _ n (by omega)]
    congr 1
    apply tab_ext
    intro c _ _
    rw [drop_cons h1, tTab, Bool.or_assoc]
theorem listL2 (f : Int → Bool) (a : Nat) (ha : a < 12) (go1 : List TEdge → Int → Option (List TEdge × Int)) : ∀ (r b : Nat), b + r = 12 → ∀ acc : List TEdge, acc.length + r ≤ 10000 → ∀ n, r < n →
    m8_lock_Waits_L2 (a : Int) (tab 144 f) go1 n acc (b : Int) = m8_lock_Waits_K4 (a : Int) go1 (acc ++ rowE (fun a b => f (a * 12 + b)) (a : Int) b r) := by
  intro r
  induction r with
  | zero =>
    intro b hb acc hacc n hn
    obtain ⟨n, rfl⟩ := dec n hn
    rw [m8_lock_Waits_L2, m8_lock_Waits_L2B, if_neg (by omega), rowE, List.append_nil]
  | succ r ih =>
    intro b hb acc hacc n hn
    obtain ⟨n, rfl⟩ := dec n (by omega)
    rw [m8_lock_Waits_L2, m8_lock_Waits_L2B, if_pos (by omega), rng_ok (by omega) (by omega), bind1_some, idx2_tab (by omega) (by omega) (by omega) (by omega), bind1_some, rowE]
    by_cases c : f ((a : Int) * 12 + (b : Int)) = true
    · rw [if_pos c, if_pos c, app_ok (by simp; omega), bind1_some, isucc b (by omega), bind1_some, ih (b + 1) (by omega) _ (by simp; omega) n (by omega), List.append_assoc]
    · rw [if_neg c, if_neg c, isucc b (by omega), bind1_some, ih (b + 1) (by omega) _ (by omega) n (by omega), List.nil_append]
theorem listL1 (f : Int → Bool) : ∀ (r a : Nat), a + r = 12 → ∀ acc : List TEdge, acc.length ≤ 12 * a → ∀ n, r < n →
    m8_lock_Waits_L1 (tab 144 f) n acc (a : Int) = some (acc ++ allE (fun a b => f (a * 12 + b)) a r, 0) := by
  intro r
  induction r with
  | zero =>
    intro a ha acc hacc n hn
    obtain ⟨n, rfl⟩ := dec n hn
    rw [m8_lock_Waits_L1, m8_lock_Waits_L1B, if_neg (by omega), m8_lock_Waits_K3, allE, List.append_nil]
  | succ r ih =>
    intro a ha acc hacc n hn
    obtain ⟨n, rfl⟩ := dec n (by omega)
    have h2 := listL2 f a (by omega) (m8_lock_Waits_L1 (tab 144 f) n) 12 0 (by omega) acc (by omega) big (lt_big (by omega))
    have h4 : (acc ++ rowE (fun a b => f (a * 12 + b)) (a : Int) 0 12).length ≤ 12 * (a + 1) := by
      have h3 := rowE_len (fun a b => f (a * 12 + b)) (a : Int) 12 0
      rw [List.length_append]; omega
    rw [show ((0 : Nat) : Int) = 0 from rfl] at h2
    rw [m8_lock_Waits_L1, m8_lock_Waits_L1B, if_pos (by omega), h2, m8_lock_Waits_K4, isucc a (by omega), bind1_some, ih (a + 1) (by omega) _ h4 n (by omega), allE, List.append_assoc]
/-! ### The document's -/
def rq (x : TLockItem) (a b : Int) : Nat → List TLock → Bool
  | _, [] => false
  | i, w :: Q => if w.Tx = a then decide (a ≠ b) && (hasTx (x.Queue.take i) b || (hasTx x.Held b && !fitS (wishS x.Held w) (holdsS x.Held b))) else rq x a b (i + 1) Q
def refW (t : List TLockItem) (a b : Int) : Bool := t.any fun x => rq x a b 0 x.Queue
theorem rest_no {x : TLockItem} {a b : Int} (hb0 : 0 ≤ b) (hb1 : b < 12) (hx : Rt x) : ∀ (L : List TLock) (i : Nat), (∀ w ∈ L, w.Tx ≠ a) → qTab x i L (a * 12 + b) = false
  | [], i, _ => rfl
  | w :: L, i, h => by
    have hw := h w (by simp)
    rw [qTab, rest_no hb0 hb1 hx L (i + 1) fun v hv => h v (by simp [hv]), Bool.or_false]
    have e1 : (x.Held.any fun h => hitH x.Held w h (a * 12 + b)) = false := by
      rw [List.any_eq_false]
      intro z hz
      obtain ⟨g0, g1⟩ := tx_in hx.held hz
      unfold hitH
      rw [show decide (a * 12 + b = w.Tx * 12 + z.Tx) = false by simp; omega]
      simp
    have e2 : ((x.Queue.take i).any fun v => hitQ w v (a * 12 + b)) = false := by
      rw [List.any_eq_false]
      intro z hz
      obtain ⟨g0, g1⟩ := tx_in hx.queue (List.mem_of_mem_take hz)
      unfold hitQ
      rw [show decide (a * 12 + b = w.Tx * 12 + z.Tx) = false by simp; omega]
      simp
    rw [e1, e2]; rfl
theorem held_at {H : List TLock} (hd : Ds H) (b : Int) (p : Int → Bool) : (H.any fun h => decide (h.Tx = b) && p h.Mode) = (hasTx H b && p (holdsS H b)) := by
  induction H with
  | nil => rfl
  | cons y H ih =>
    obtain ⟨h1, h2⟩ := List.pairwise_cons.1 hd
    have ih := ih h2
    unfold hasTx holdsS at *
    rw [List.any_cons, List.any_cons, List.find?_cons]
    by_cases c : y.Tx = b
    · have e : (H.any fun h => decide (h.Tx = b) && p h.Mode) = false := by
        rw [List.any_eq_false]
        intro z hz
        have := h1 z hz
        rw [show decide (z.Tx = b) = false by simp; omega]
        simp
      rw [e]
      simp [c]
    · simp only [c, decide_false, Bool.false_and, Bool.false_or]
      exact ih
theorem q_eq {x : TLockItem} {a b : Int} (hb0 : 0 ≤ b) (hb1 : b < 12) (hx : Rt x) : ∀ (r i : Nat), i + r = x.Queue.length → qTab x i (x.Queue.drop i) (a * 12 + b) = rq x a b i (x.Queue.drop i) := by
  have hqd := ((ok_iff0 _).1 hx.queue).2
  have hhd := ((ok_iff0 _).1 hx.held).2
  intro r
  induction r with
  | zero => intro i hi; rw [List.drop_eq_nil_of_le (by omega)]; rfl
  | succ r ih =>
    intro i hi
    have h1 : i < x.Queue.length := by omega
    rw [drop_cons h1, qTab, rq]
    by_cases c : x.Queue[i].Tx = a
    · have hlater : ∀ w ∈ x.Queue.drop (i + 1), w.Tx ≠ a := by
        intro w hw
        obtain ⟨q, hq, rfl⟩ := List.getElem_of_mem hw
        rw [List.getElem_drop]
        rw [List.length_drop] at hq
        have := List.pairwise_iff_getElem.1 hqd i (i + 1 + q) h1 (by omega) (by omega)
        omega
      have hfront : ∀ w ∈ x.Queue.take i, w.Tx ≠ a := by
        intro w hw
        obtain ⟨q, hq, rfl⟩ := List.getElem_of_mem hw
        rw [List.getElem_take]
        rw [List.length_take] at hq
        have := List.pairwise_iff_getElem.1 hqd q i (by omega) h1 (by omega)
        omega
      rw [if_pos c, rest_no hb0 hb1 hx _ _ hlater, Bool.or_false]
      have e1 : (x.Held.any fun h => hitH x.Held x.Queue[i] h (a * 12 + b)) = (decide (a ≠ b) && (hasTx x.Held b && !fitS (wishS x.Held x.Queue[i]) (holdsS x.Held b))) := by
        rw [← held_at hhd b fun m => !fitS (wishS x.Held x.Queue[i]) m]
        by_cases c2 : a = b
        · rw [show decide (a ≠ b) = false by simpa using c2, Bool.false_and, List.any_eq_false]
          intro z hz
          obtain ⟨g0, g1⟩ := tx_in hx.held hz
          unfold hitH
          by_cases c3 : z.Tx = x.Queue[i].Tx
          · rw [show decide (z.Tx ≠ x.Queue[i].Tx) = false by simpa using c3]; simp
          · rw [show decide (a * 12 + b = x.Queue[i].Tx * 12 + z.Tx) = false by simp; omega]; simp
        · rw [show decide (a ≠ b) = true by simpa using c2, Bool.true_and]
          congr 1
          funext z
          unfold hitH
          by_cases c3 : z.Tx = b
          · rw [show decide (a * 12 + b = x.Queue[i].Tx * 12 + z.Tx) = true by simp; omega, show decide (z.Tx ≠ x.Queue[i].Tx) = true by simp; omega, show decide (z.Tx = b) = true by simpa using c3]; rfl
          · rw [show decide (a * 12 + b = x.Queue[i].Tx * 12 + z.Tx) = false by simp; omega, show decide (z.Tx = b) = false by simpa using c3]; simp
      have e2 : ((x.Queue.take i).any fun v => hitQ x.Queue[i] v (a * 12 + b)) = (decide (a ≠ b) && hasTx (x.Queue.take i) b) := by
        have e3 : (fun v : TLock => hitQ x.Queue[i] v (a * 12 + b)) = fun v => decide (v.Tx = b) := by
          funext v
          unfold hitQ
          rw [decide_eq_decide]
          omega
        rw [e3]
        by_cases c2 : a = b
        · rw [show decide (a ≠ b) = false by simpa using c2, Bool.false_and, List.any_eq_false]
          intro z hz
          have := hfront z hz
          simp; omega
        · rw [show decide (a ≠ b) = true by simpa using c2, Bool.true_and]; rfl
      rw [e1, e2, ← Bool.and_or_distrib_left, Bool.or_comm]
    · rw [if_neg c, ← ih (i + 1) (by omega)]
      have := rest_no (a := a) hb0 hb1 hx [x.Queue[i]] i (by intro w hw; rw [List.mem_singleton] at hw; rw [hw]; exact c)
      rw [qTab, qTab, Bool.or_false] at this
      rw [this, Bool.false_or]
theorem t_eq (hg : Good t) {a b : Int} (hb0 : 0 ≤ b) (hb1 : b < 12) : tTab t (a * 12 + b) = refW t a b := by
  have key : ∀ s : List TLockItem, (∀ x ∈ s, Rt x) → tTab s (a * 12 + b) = s.any fun x => rq x a b 0 x.Queue := by
    intro s
    induction s with
    | nil => intro _; rfl
    | cons x s ih =>
      intro h
      have h2 := q_eq (a := a) hb0 hb1 (h x (by simp)) x.Queue.length 0 (by omega)
      rw [List.drop_zero] at h2
      rw [tTab, List.any_cons, h2, ih fun y hy => h y (by simp [hy])]
  exact key t hg.rt
def waitsS (t : List TLockItem) : List TEdge := allE (refW t) 0 12
theorem waits_lock (hg : Good t) : m8_lock_Waits t = some (waitsS t, 0) := by
  have hl := hg.len
  have hchk := check_lock t (by unfold Ln; omega) (fun x hx => by
    have := (hg.rt x hx).hl
    have := (hg.rt x hx).ql
    unfold Ln; omega)
  rw [(good_iff t).2 hg] at hchk
  have h1 := table_loop hg t.length 0 (by omega) (fun _ => false) big (lt_big (by omega))
  rw [show ((0 : Nat) : Int) = 0 from rfl, List.drop_zero] at h1
  have h2 := listL1 (fun c => false || tTab t c) 12 0 (by omega) [] (by simp) big (lt_big (by omega))
  rw [show ((0 : Nat) : Int) = 0 from rfl] at h2
  rw [m8_lock_Waits, hchk, bind1_some, if_neg (by simp), m8_lock_Waits_K1, tab_repl, h1, m8_lock_Waits_K2, h2, List.nil_append, waitsS]
  congr 2
  exact allE_ext 12 0 fun c d h3 h4 h5 h6 => by rw [Bool.false_or]; exact t_eq hg h5 h6
section
variable {a b : Int} {acc : List TEdge} {go2 : List TEdge → Int → Option (List TEdge)}
theorem ref_item (hg : Good t) (i : Nat) (hi : i < t.length) (hb0 : 0 ≤ b) (go3 : Bool → Int → Option (List TEdge)) (is : Bool) : m11_quirref_WaitEdges_L4 t[i] a (i : Nat) go3 is b big 0 = go3 (is || rq t[i] a b 0 t[i].Queue) ((i + 1 : Nat) : Int) := by
  have hl := hg.len
  have hx := hg.rt _ (List.getElem_mem hi)
  have hh := hx.hl
  have hq := hx.ql
  have hs := isucc i (by omega)
  generalize t[i] = x at *
  have key : ∀ (r j : Nat), j + r = x.Queue.length → ∀ n, r < n → m11_quirref_WaitEdges_L4 x a (i : Nat) go3 is b n (j : Nat) = go3 (is || rq x a b j (x.Queue.drop j)) ((i + 1 : Nat) : Int) := by
    intro r
    induction r with
    | zero =>
      intro j hj n hn
      obtain ⟨n, rfl⟩ := dec n hn
      rw [m11_quirref_WaitEdges_L4, m11_quirref_WaitEdges_L4B, if_neg (by omega), m11_quirref_WaitEdges_K9, m11_quirref_WaitEdges_K5, if_pos (by omega), hs, bind1_some, List.drop_eq_nil_of_le (by omega), rq, Bool.or_false]
    | succ r ih =>
      intro j hj n hn
      obtain ⟨n, rfl⟩ := dec n (by omega)
      have h1 : j < x.Queue.length := by omega
      have hw := List.getElem_mem h1
      rw [m11_quirref_WaitEdges_L4, m11_quirref_WaitEdges_L4B, if_pos (by omega), idx_ok h1, bind1_some, m11_quirref_WaitEdges_K10, drop_cons h1, rq]
      by_cases c : x.Queue[j].Tx = a
      · rw [if_pos (by simpa using c), if_pos c, m11_quirref_WaitEdges_K5, if_neg (by omega)]
        by_cases c2 : a = b
        · rw [if_pos c2, hs, bind1_some, show decide (a ≠ b) = false by simpa using c2]; simp
        rw [if_neg c2, m11_quirref_WaitEdges_K6, holds_eq _ (by unfold Ln; omega), bind1_some, show decide (a ≠ b) = true by simpa using c2, Bool.true_and]
        have tail : ∀ z : Bool, m11_quirref_WaitEdges_K7 (i : Nat) go3 (holdsS x.Held b) x (j : Nat) z = go3 (z || (hasTx x.Held b && !fitS (wishS x.Held x.Queue[j]) (holdsS x.Held b))) ((i + 1 : Nat) : Int) := by
          intro z
          rw [m11_quirref_WaitEdges_K7, hs]
          cases z with
          | true => simp
          | false =>
            rw [if_neg ff, idx_ok h1, bind1_some, wish_ref x _ (by unfold Ln; omega) hx.hm (hx.qm _ hw), bind1_some, fits_ref, bind1_some]
            cases c3 : hasTx x.Held b with
            | true =>
              rw [if_pos ((holds_pos hx.hm _).2 c3)]
              cases fitS (wishS x.Held x.Queue[j]) (holdsS x.Held b) <;> simp [m11_quirref_WaitEdges_K8, hs]
            | false =>
              rw [if_neg (by rw [holds_pos hx.hm, c3]; simp)]
              simp [m11_quirref_WaitEdges_K8, hs]
        cases is with
        | true => rw [if_pos rfl, tail]; simp
        | false =>
          rw [if_neg ff, cut_take _ _ (by omega), bind1_some, holds_eq _ (by unfold Ln; rw [List.length_take]; omega), bind1_some, tail, tail]
          cases c4 : hasTx (x.Queue.take j) b with
          | true => rw [if_pos ((holds_pos (mds_take hx.qm j) _).2 c4)]; simp
          | false => rw [if_neg (by rw [holds_pos (mds_take hx.qm j), c4]; simp)]; simp
      · rw [if_neg (by simpa using c), if_neg c, isucc j (by omega), bind1_some]
        exact ih (j + 1) (by omega) n (by omega)
  have := key x.Queue.length 0 (by omega) big (lt_big (by omega))
  simpa using this
theorem ref_is (hg : Good t) (hb0 : 0 ≤ b) : ∀ (r i : Nat), i + r = t.length → ∀ n, r < n → ∀ is : Bool, m11_quirref_WaitEdges_L3 t a b acc go2 n is (i : Nat) = m11_quirref_WaitEdges_K4 acc a b go2 (is || (t.drop i).any fun x => rq x a b 0 x.Queue) := by
  intro r
  induction r with
  | zero =>
    intro i hi n hn is
    obtain ⟨n, rfl⟩ := dec n hn
    rw [m11_quirref_WaitEdges_L3, m11_quirref_WaitEdges_L3B, if_neg (by omega), List.drop_eq_nil_of_le (by omega)]
    simp
  | succ r ih =>
    intro i hi n hn is
    obtain ⟨n, rfl⟩ := dec n (by omega)
    have h1 : i < t.length := by omega
    rw [m11_quirref_WaitEdges_L3, m11_quirref_WaitEdges_L3B, if_pos (by omega), idx_ok h1, bind1_some, ref_item hg i h1 hb0, ih (i + 1) (by omega) n (by omega), drop_cons h1, List.any_cons, Bool.or_assoc]
end
theorem refL2 (hg : Good t) (a : Nat) (ha : a < 12) (go1 : List TEdge → Int → Option (List TEdge)) : ∀ (r b : Nat), b + r = 12 → ∀ acc : List TEdge, acc.length + r ≤ 10000 → ∀ n, r < n →
    m11_quirref_WaitEdges_L2 t (a : Int) go1 n acc (b : Int) = m11_quirref_WaitEdges_K2 (a : Int) go1 (acc ++ rowE (refW t) (a : Int) b r) := by
  have hl := hg.len
  intro r
  induction r with
  | zero =>
    intro b hb acc hacc n hn
    obtain ⟨n, rfl⟩ := dec n hn
    rw [m11_quirref_WaitEdges_L2, m11_quirref_WaitEdges_L2B, if_neg (by omega), rowE, List.append_nil]
  | succ r ih =>
    intro b hb acc hacc n hn
    obtain ⟨n, rfl⟩ := dec n (by omega)
    have h2 := ref_is (a := (a : Int)) (b := (b : Int)) (acc := acc) (go2 := m11_quirref_WaitEdges_L2 t (a : Int) go1 n) hg (by omega) t.length 0 (by omega) big (lt_big (by omega)) false
    rw [show ((0 : Nat) : Int) = 0 from rfl, List.drop_zero, Bool.false_or] at h2
    rw [m11_quirref_WaitEdges_L2, m11_quirref_WaitEdges_L2B, if_pos (by omega), h2, m11_quirref_WaitEdges_K4, rowE, show (t.any fun x => rq x (a : Int) (b : Int) 0 x.Queue) = refW t (a : Int) (b : Int) from rfl]
    by_cases c : refW t (a : Int) (b : Int) = true
    · rw [if_pos c, if_pos c, app_ok (by simp; omega), bind1_some, m11_quirref_WaitEdges_K3, isucc b (by omega), bind1_some, ih (b + 1) (by omega) _ (by simp; omega) n (by omega), List.append_assoc]
    · rw [if_neg c, if_neg c, m11_quirref_WaitEdges_K3, isucc b (by omega), bind1_some, ih (b + 1) (by omega) _ (by omega) n (by omega), List.nil_append]
theorem refL1 (hg : Good t) : ∀ (r a : Nat), a + r = 12 → ∀ acc : List TEdge, acc.length ≤ 12 * a → ∀ n, r < n →
    m11_quirref_WaitEdges_L1 t n acc (a : Int) = some (acc ++ allE (refW t) a r) := by
  intro r
  induction r with
  | zero =>
    intro a ha acc hacc n hn
    obtain ⟨n, rfl⟩ := dec n hn
    rw [m11_quirref_WaitEdges_L1, m11_quirref_WaitEdges_L1B, if_neg (by omega), m11_quirref_WaitEdges_K1, allE, List.append_nil]
  | succ r ih =>
    intro a ha acc hacc n hn
    obtain ⟨n, rfl⟩ := dec n (by omega)
    have h2 := refL2 hg a (by omega) (m11_quirref_WaitEdges_L1 t n) 12 0 (by omega) acc (by omega) big (lt_big (by omega))
    have h4 : (acc ++ rowE (refW t) (a : Int) 0 12).length ≤ 12 * (a + 1) := by
      have h3 := rowE_len (refW t) (a : Int) 12 0
      rw [List.length_append]; omega
    rw [show ((0 : Nat) : Int) = 0 from rfl] at h2
    rw [m11_quirref_WaitEdges_L1, m11_quirref_WaitEdges_L1B, if_pos (by omega), h2, m11_quirref_WaitEdges_K2, isucc a (by omega), bind1_some, ih (a + 1) (by omega) _ h4 n (by omega), allE, List.append_assoc]
theorem waits_ref (hg : Good t) : m11_quirref_WaitEdges t = some (waitsS t) := by
  have h2 := refL1 hg 12 0 (by omega) [] (by simp) big (lt_big (by omega))
  rw [m11_quirref_WaitEdges]
  exact h2
end
end Go.Proofs.Ytgkdimboofglfaa
