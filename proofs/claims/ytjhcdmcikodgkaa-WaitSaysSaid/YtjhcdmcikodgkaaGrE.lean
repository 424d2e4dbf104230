/-
  Parts of a graph and what is reached: both answers.
  Conditions: none.
-/
import Derived.Test.YtjhcdmcikodgkaaGrD
namespace Go.Proofs.Ytjhcdmcikodgkaa
open Go.S
set_option linter.unusedVariables false
set_option linter.unusedSimpArgs false

/-! ### Lists in an order -/
theorem uniq {α : Type} (f : α → Int) : ∀ (l1 l2 : List α), l1.Pairwise (fun x y => f x < f y) → l2.Pairwise (fun x y => f x < f y) → (∀ x, x ∈ l1 ↔ x ∈ l2) → l1 = l2
  | [], [], _, _, _ => rfl
  | [], b :: t2, _, _, h => absurd ((h b).2 (List.mem_cons_self ..)) (by simp)
  | a :: t1, [], _, _, h => absurd ((h a).1 (List.mem_cons_self ..)) (by simp)
  | a :: t1, b :: t2, h1, h2, h => by
    obtain ⟨g1, g2⟩ := List.pairwise_cons.1 h1
    obtain ⟨k1, k2⟩ := List.pairwise_cons.1 h2
    have e : a = b := by
      rcases List.mem_cons.1 ((h a).1 (List.mem_cons_self ..)) with e | e
      · exact e
      · rcases List.mem_cons.1 ((h b).2 (List.mem_cons_self ..)) with e2 | e2
        · exact e2.symm
        · have := g1 b e2
          have := k1 a e
          omega
    subst e
    rw [uniq f t1 t2 g2 k2 fun x => ⟨fun hx => ?_, fun hx => ?_⟩]
    · rcases List.mem_cons.1 ((h x).1 (List.mem_cons_of_mem _ hx)) with e | e
      · have := g1 x hx
        rw [e] at this
        omega
      · exact e
    · rcases List.mem_cons.1 ((h x).2 (List.mem_cons_of_mem _ hx)) with e | e
      · have := k1 x hx
        rw [e] at this
        omega
      · exact e
/-- Those of so many numbers that are right. -/
def selI (P : Int → Bool) : Nat → Nat → List Int
  | _, 0 => []
  | i, r + 1 => if P (i : Int) = true then (i : Int) :: selI P (i + 1) r else selI P (i + 1) r
theorem selI_mem {P : Int → Bool} {x : Int} : ∀ (r i : Nat), x ∈ selI P i r ↔ (i : Int) ≤ x ∧ x < i + r ∧ P x = true
  | 0, i => by simp [selI]; omega
  | r + 1, i => by
    rw [selI]
    by_cases c : P (i : Int) = true
    · rw [if_pos c, List.mem_cons, selI_mem r (i + 1)]
      constructor
      · rintro (h | ⟨h1, h2, h3⟩)
        · rw [h]; exact ⟨by omega, by omega, c⟩
        · exact ⟨by omega, by omega, h3⟩
      · rintro ⟨h1, h2, h3⟩
        by_cases e : x = i
        · exact .inl e
        · exact .inr ⟨by omega, by omega, h3⟩
    · rw [if_neg c, selI_mem r (i + 1)]
      constructor
      · rintro ⟨h1, h2, h3⟩; exact ⟨by omega, by omega, h3⟩
      · rintro ⟨h1, h2, h3⟩
        refine ⟨?_, by omega, h3⟩
        by_cases e : x = i
        · rw [e] at h3; exact absurd h3 c
        · omega
theorem selI_lt {P : Int → Bool} : ∀ (r i : Nat), (selI P i r).Pairwise (· < ·)
  | 0, i => .nil
  | r + 1, i => by
    rw [selI]
    split
    · exact List.pairwise_cons.2 ⟨fun x hx => by have := (selI_mem r (i + 1)).1 hx; omega, selI_lt r (i + 1)⟩
    · exact selI_lt r (i + 1)
theorem selI_len {P : Int → Bool} : ∀ (r i : Nat), (selI P i r).length ≤ r
  | 0, i => Nat.le_refl _
  | r + 1, i => by
    have := selI_len (P := P) r (i + 1)
    rw [selI]
    split
    · rw [List.length_cons]; omega
    · omega
theorem selI_ext {P R : Int → Bool} : ∀ (r i : Nat), (∀ x : Int, (i : Int) ≤ x → x < i + r → P x = R x) → selI P i r = selI R i r
  | 0, i, _ => rfl
  | r + 1, i, h => by rw [selI, selI, h i (by omega) (by omega), selI_ext r (i + 1) fun x h1 h2 => h x (by omega) (by omega)]
theorem hd0_mem {p : List Int} (h : p ≠ []) : hd0 p ∈ p := by
  cases p with
  | nil => exact absurd rfl h
  | cons a l => exact List.mem_cons_self ..
theorem idx_hd {p : List Int} (h : p ≠ []) : idx p 0 = some (hd0 p) := by
  cases p with
  | nil => exact absurd rfl h
  | cons a l => exact idx_ok (l := a :: l) (i := 0) (by simp)
theorem srtH_perm (l : List (List Int)) : (srtH l).Perm l := by unfold srtH; exact List.mergeSort_perm l _
theorem srtH_lt {l : List (List Int)} (h : l.Pairwise fun x y => hd0 x ≠ hd0 y) : (srtH l).Pairwise fun x y => hd0 x < hd0 y := by
  have h1 := List.pairwise_mergeSort (le := fun x y : List Int => decide (hd0 x ≤ hd0 y)) (fun a b c h1 h2 => by simp only [decide_eq_true_eq] at *; omega) (fun a b => by simp only [Bool.or_eq_true, decide_eq_true_eq]; omega) l
  have h2 : (srtH l).Pairwise fun x y => hd0 x ≠ hd0 y := (srtH_perm l).symm.pairwise h (fun h e => h e.symm)
  exact (List.pairwise_and_iff.2 ⟨h1, h2⟩).imp fun {a b} h => by
    have h3 : hd0 a ≠ hd0 b := h.2
    have h4 : decide (hd0 a ≤ hd0 b) = true := h.1
    have h5 := of_decide_eq_true h4
    omega

/-! ### The program's parts -/
variable {n : Nat} {es : List TEdge}
theorem wh_zero : ∀ n, wh (fun _ => 0) n = n
  | 0 => rfl
  | n + 1 => by rw [wh, wh_zero n, if_pos rfl]
theorem inv_zero : Inv n es [] ⟨fun _ => 0, [], [], 0⟩ := by
  refine ⟨fun x => ⟨Int.le_refl _, Int.le_refl _⟩, fun x h => absurd rfl h, ?_, by simp, .nil, by simp, by simp, by simp, by simp, fun x h => absurd rfl h, by simp, by simp, .nil, ?_⟩
  · show (0 : Int) + (wh (fun _ => 0) n : Int) = n
    rw [wh_zero]; omega
  · show 0 + 0 + wh (fun _ => 0) n ≤ n
    rw [wh_zero]; omega
theorem Inv.snil {σ : St} (h : Inv n es [] σ) : σ.s = [] := by
  cases hs : σ.s with
  | nil => rfl
  | cons a l =>
    obtain ⟨g, hg, _⟩ := h.back a (by rw [hs]; exact List.mem_cons_self ..)
    cases hg
theorem partsL (hn : n ≤ 60) (hl : es.length ≤ 2000) (hR : InR n es) : ∀ (r i : Nat), i + r = n → ∀ σ L, Inv n es [] σ → (∀ x : Int, 0 ≤ x → x < i → σ.W x ≠ 0) → ∀ m, r < m →
    ∃ σ' : St, Inv n es [] σ' ∧ (∀ x : Int, 0 ≤ x → x < n → σ'.W x ≠ 0) ∧ m7_graph_Parts_L1 (n : Int) (tab n (suc es)) m (i : Int) (tab n σ.W) (tab n L) σ.s σ.P σ.t = bind1 (xSortH σ'.P) fun l => some (l, 0) := by
  intro r
  induction r with
  | zero =>
    intro i hi σ L h hv m hm
    obtain ⟨m, rfl⟩ := dec m hm
    exact ⟨σ, h, fun x h0 h1 => hv x h0 (by omega), by rw [m7_graph_Parts_L1, m7_graph_Parts_L1B, if_neg (by omega), m7_graph_Parts_K3]⟩
  | succ r ih =>
    intro i hi σ L h hv m hm
    obtain ⟨m, rfl⟩ := dec m (by omega)
    have i0 : (0 : Int) ≤ (i : Int) := by omega
    have i1 : (i : Int) < (n : Nat) := by omega
    rw [m7_graph_Parts_L1, m7_graph_Parts_L1B, if_pos i1, tab_idx i0 i1, bind1_some]
    by_cases c : σ.W i = 0
    · obtain ⟨σ', L', e, hp⟩ := goes hn hl hR big [] σ L i (by have := wh_le σ.W n; rw [big_eq]; omega) h c i0 i1 (by simp)
      rw [if_pos c, m22_graph_walker_visit, e, bind5_some, isucc i (by omega), bind1_some]
      refine ih (i + 1) (by omega) σ' L' hp.inv (fun x h0 h1 => ?_) m (by omega)
      by_cases e : x = i
      · rw [e, hp.seen]
        have := h.tle
        omega
      · have := hv x h0 (by omega)
        rw [(hp.ext x this).1]
        exact this
    · rw [if_neg c, isucc i (by omega), bind1_some]
      refine ih (i + 1) (by omega) σ L h (fun x h0 h1 => ?_) m (by omega)
      by_cases e : x = i
      · rw [e]; exact c
      · exact hv x h0 (by omega)
/-- The part of a node. -/
def part (n : Nat) (C : Int → Int → Bool) (k : Int) : List Int := selI (fun i => decide (i = k) || C i k && C k i) 0 n
theorem part_mem {C : Int → Int → Bool} {k x : Int} : x ∈ part n C k ↔ 0 ≤ x ∧ x < n ∧ (x = k ∨ C x k = true ∧ C k x = true) := by
  unfold part
  rw [selI_mem]
  simp only [Bool.or_eq_true, Bool.and_eq_true, decide_eq_true_eq]
  constructor
  · rintro ⟨h1, h2, h3⟩; exact ⟨by omega, by omega, h3⟩
  · rintro ⟨h1, h2, h3⟩; exact ⟨by omega, by omega, h3⟩
def refParts (n : Nat) (C : Int → Int → Bool) : Nat → Nat → List (List Int)
  | _, 0 => []
  | k, r + 1 => if hd0 (part n C (k : Int)) = k then part n C (k : Int) :: refParts n C (k + 1) r else refParts n C (k + 1) r
theorem refParts_mem {C : Int → Int → Bool} {p : List Int} : ∀ (r k : Nat), p ∈ refParts n C k r ↔ ∃ q : Int, (k : Int) ≤ q ∧ q < k + r ∧ hd0 (part n C q) = q ∧ p = part n C q
  | 0, k => by simp [refParts]; omega
  | r + 1, k => by
    rw [refParts]
    by_cases c : hd0 (part n C (k : Int)) = k
    · rw [if_pos c, List.mem_cons, refParts_mem r (k + 1)]
      constructor
      · rintro (h | ⟨q, h1, h2, h3⟩)
        · exact ⟨k, by omega, by omega, c, h⟩
        · exact ⟨q, by omega, by omega, h3⟩
      · rintro ⟨q, h1, h2, h3, h4⟩
        by_cases e : q = k
        · rw [e] at h4; exact .inl h4
        · exact .inr ⟨q, by omega, by omega, h3, h4⟩
    · rw [if_neg c, refParts_mem r (k + 1)]
      constructor
      · rintro ⟨q, h1, h2, h3⟩; exact ⟨q, by omega, by omega, h3⟩
      · rintro ⟨q, h1, h2, h3, h4⟩
        by_cases e : q = k
        · rw [e] at h3; exact absurd h3 c
        · exact ⟨q, by omega, by omega, h3, h4⟩
theorem refParts_lt {C : Int → Int → Bool} : ∀ (r k : Nat), (refParts n C k r).Pairwise fun x y => hd0 x < hd0 y
  | 0, k => .nil
  | r + 1, k => by
    rw [refParts]
    split
    · rename_i c
      refine List.pairwise_cons.2 ⟨fun x hx => ?_, refParts_lt r (k + 1)⟩
      obtain ⟨q, h1, h2, h3, h4⟩ := (refParts_mem r (k + 1)).1 hx
      rw [c, h4, h3]
      omega
    · exact refParts_lt r (k + 1)
theorem refParts_len {C : Int → Int → Bool} : ∀ (r k : Nat), (refParts n C k r).length ≤ r
  | 0, k => Nat.le_refl _
  | r + 1, k => by
    have := refParts_len (C := C) r (k + 1)
    rw [refParts]
    split
    · rw [List.length_cons]; omega
    · omega
theorem parts_eq (hn : n ≤ 60) (hl : es.length ≤ 2000) (hR : InR n es) (C : Int → Int → Bool) (hC : ∀ i j, C i j = true ↔ TC es i j) : m7_graph_Parts (n : Int) es = some (refParts n C 0 n, 0) := by
  obtain ⟨σ, h, hv, e⟩ := partsL hn hl hR n 0 (by omega) ⟨fun _ => 0, [], [], 0⟩ (fun _ => 0) inv_zero (fun x h0 h1 => by omega) big (lt_big (by omega))
  have hs := h.snil
  have hrng : ∀ p ∈ σ.P, ∀ x ∈ p, 0 ≤ x ∧ x < n := fun p hp x hx => h.vis x ((h.pcov x).2 ⟨p, hp, hx⟩).1
  have hpart : ∀ p ∈ σ.P, ∀ k ∈ p, p = part n C k := by
    intro p hp k hk
    obtain ⟨h1, h2, h3⟩ := h.pok p hp
    refine uniq id p (part n C k) h2 (selI_lt n 0) fun x => ?_
    rw [h3 k hk x, part_mem, hC, hC]
    constructor
    · intro hr
      obtain ⟨r1, r2⟩ := hrng p hp x ((h3 k hk x).2 hr)
      refine ⟨r1, r2, ?_⟩
      rcases hr with ⟨q1 | q1, q2 | q2⟩
      · exact .inl q2
      · exact .inl q1.symm
      · exact .inl q2
      · exact .inr ⟨q2, q1⟩
    · rintro ⟨_, _, q | ⟨q1, q2⟩⟩
      · rw [q]; exact ⟨Rch.refl k, Rch.refl k⟩
      · exact ⟨.inr q2, .inr q1⟩
  have hne : σ.P.Pairwise fun x y => hd0 x ≠ hd0 y := List.Pairwise.imp_of_mem (fun {p q} hp hq hpq e => by
    have h1 := hd0_mem (h.pok p hp).1
    have h2 := hd0_mem (h.pok q hq).1
    rw [← e] at h2
    exact hpq _ h1 h2) h.pdj
  have hlen := h.plen
  have hx : xSortH σ.P = some (srtH σ.P) := if_pos ⟨by omega, fun p hp => ⟨(h.pok p hp).1, by
    have := hrng p hp _ (hd0_mem (h.pok p hp).1)
    omega⟩, hne⟩
  have heq : srtH σ.P = refParts n C 0 n := by
    refine uniq hd0 _ _ (srtH_lt hne) (refParts_lt n 0) fun p => ?_
    rw [(srtH_perm σ.P).mem_iff, refParts_mem]
    constructor
    · intro hp
      have h1 := hd0_mem (h.pok p hp).1
      have h2 := hpart p hp _ h1
      have h3 := hrng p hp _ h1
      exact ⟨hd0 p, by omega, by omega, by rw [← h2], h2⟩
    · rintro ⟨q, h1, h2, h3, h4⟩
      obtain ⟨p', p1, p2⟩ := (h.pcov q).1 ⟨hv q (by omega) (by omega), by rw [hs]; simp⟩
      rw [h4, ← hpart p' p1 q p2]
      exact p1
  have e0 : m7_graph_Parts_L1 (n : Int) (tab n (suc es)) big 0 (tab n fun _ => 0) (tab n fun _ => 0) [] [] 0 = bind1 (xSortH σ.P) fun l => some (l, 0) := e
  rw [m7_graph_Parts, gcheck n hn es hl hR, bind1_some, if_neg (by simp), m7_graph_Parts_K1, next_eq n hn es hl hR, bind1_some, mk_ok _ (by omega), bind1_some, bind1_some, m7_graph_Parts_K2, tab_repl, e0, hx, bind1_some, heq]

/-! ### The document's parts -/
theorem refL2 (hn : n ≤ 60) (C : Int → Int → Bool) (k : Nat) (hk : k < n) (gl5 : List (List Int)) (go1 : List (List Int) → Int → Option (List (List Int))) : ∀ (r i : Nat), i + r = n → ∀ acc : List Int, acc.length ≤ i → ∀ m, r < m →
    m13_quirref_Parts_L2 (n : Int) (k : Int) (tt n C) gl5 go1 m acc (i : Int) = m13_quirref_Parts_K3 (k : Int) gl5 go1 (acc ++ selI (fun i => decide (i = (k : Int)) || C i k && C k i) i r) := by
  intro r
  induction r with
  | zero =>
    intro i hi acc ha m hm
    obtain ⟨m, rfl⟩ := dec m hm
    rw [m13_quirref_Parts_L2, m13_quirref_Parts_L2B, if_neg (by omega), selI, List.append_nil]
  | succ r ih =>
    intro i hi acc ha m hm
    obtain ⟨m, rfl⟩ := dec m (by omega)
    have i0 : (0 : Int) ≤ (i : Int) := by omega
    have i1 : (i : Int) < (n : Nat) := by omega
    have k0 : (0 : Int) ≤ (k : Int) := by omega
    have k1 : (k : Int) < (n : Nat) := by omega
    have yes : (decide ((i : Int) = (k : Int)) || C i k && C k i) = true → bind1 (app acc [(i : Int)]) (fun l => bind1 (i64 ((i : Int) + 1)) fun x => m13_quirref_Parts_L2 (n : Int) (k : Int) (tt n C) gl5 go1 m l x) = m13_quirref_Parts_K3 (k : Int) gl5 go1 (acc ++ selI (fun i => decide (i = (k : Int)) || C i k && C k i) i (r + 1)) := by
      intro c
      rw [app_ok (by simp only [List.length_cons, List.length_nil]; omega), bind1_some, isucc i (by omega), bind1_some, ih (i + 1) (by omega) _ (by simp only [List.length_append, List.length_cons, List.length_nil]; omega) m (by omega), selI, if_pos c, List.append_assoc, List.singleton_append]
    have no : (decide ((i : Int) = (k : Int)) || C i k && C k i) = false → bind1 (i64 ((i : Int) + 1)) (fun x => m13_quirref_Parts_L2 (n : Int) (k : Int) (tt n C) gl5 go1 m acc x) = m13_quirref_Parts_K3 (k : Int) gl5 go1 (acc ++ selI (fun i => decide (i = (k : Int)) || C i k && C k i) i (r + 1)) := by
      intro c
      rw [isucc i (by omega), bind1_some, ih (i + 1) (by omega) _ (by omega) m (by omega), selI, if_neg (by rw [c]; exact ff)]
    rw [m13_quirref_Parts_L2, m13_quirref_Parts_L2B, if_pos i1]
    by_cases c : (i : Int) = k
    · rw [if_pos c]
      exact yes (by rw [decide_eq_true c, Bool.true_or])
    · rw [if_neg c, tt_idx i0 i1, bind1_some, tab_idx k0 k1, bind1_some]
      by_cases c1 : C i k = true
      · rw [if_pos c1, tt_idx k0 k1, bind1_some, tab_idx i0 i1, bind1_some]
        by_cases c2 : C k i = true
        · rw [if_pos c2]
          exact yes (by rw [c1, c2, Bool.and_true, Bool.or_true])
        · rw [if_neg c2]
          exact no (by rw [decide_eq_false c, Bool.false_or, Bool.eq_false_iff.2 c2, Bool.and_false])
      · rw [if_neg c1]
        exact no (by rw [decide_eq_false c, Bool.false_or, Bool.eq_false_iff.2 c1, Bool.false_and])
theorem refL1 (hn : n ≤ 60) (C : Int → Int → Bool) : ∀ (r k : Nat), k + r = n → ∀ acc : List (List Int), acc.length ≤ k → ∀ m, r < m →
    m13_quirref_Parts_L1 (n : Int) (tt n C) m acc (k : Int) = some (acc ++ refParts n C k r) := by
  intro r
  induction r with
  | zero =>
    intro k hk acc ha m hm
    obtain ⟨m, rfl⟩ := dec m hm
    rw [m13_quirref_Parts_L1, m13_quirref_Parts_L1B, if_neg (by omega), refParts, List.append_nil, m13_quirref_Parts_K1]
  | succ r ih =>
    intro k hk acc ha m hm
    obtain ⟨m, rfl⟩ := dec m (by omega)
    have h2 := refL2 hn C k (by omega) acc (m13_quirref_Parts_L1 (n : Int) (tt n C) m) n 0 (by omega) [] (by simp) big (lt_big (by omega))
    rw [List.nil_append, show ((0 : Nat) : Int) = 0 from rfl] at h2
    have hp : part n C k = selI (fun i => decide (i = (k : Int)) || C i k && C k i) 0 n := rfl
    rw [← hp] at h2
    have hkp : (k : Int) ∈ part n C k := part_mem.2 ⟨by omega, by omega, .inl rfl⟩
    rw [m13_quirref_Parts_L1, m13_quirref_Parts_L1B, if_pos (by omega), h2, m13_quirref_Parts_K3, idx_hd (fun e => by rw [e] at hkp; cases hkp), bind1_some, refParts]
    by_cases c : hd0 (part n C k) = k
    · rw [if_pos c, if_pos c, app_ok (by simp only [List.length_cons, List.length_nil]; omega), bind1_some, m13_quirref_Parts_K2, isucc k (by omega), bind1_some, ih (k + 1) (by omega) _ (by simp only [List.length_append, List.length_cons, List.length_nil]; omega) m (by omega), List.append_assoc, List.singleton_append]
    · rw [if_neg c, if_neg c, m13_quirref_Parts_K2, isucc k (by omega), bind1_some, ih (k + 1) (by omega) acc (by omega) m (by omega)]
theorem rparts_eq (hn : n ≤ 60) (C : Int → Int → Bool) (hC : m14_quirref_Closure (n : Int) es = some (tt n C)) : m13_quirref_Parts (n : Int) es = some (refParts n C 0 n) := by
  have := refL1 hn C n 0 (by omega) [] (by simp) big (lt_big (by omega))
  rw [List.nil_append, show ((0 : Nat) : Int) = 0 from rfl] at this
  rw [m13_quirref_Parts, hC, bind1_some, this]

/-! ### What is reached -/
structure Rinv (n : Nat) (es : List TEdge) (a : Int) (I : Int → Int) (q : List Int) : Prop where
  qr : ∀ x ∈ q, 0 ≤ x ∧ x < n ∧ TC es a x
  b : ∀ x, I x = 0 ∨ I x = 1
  ir : ∀ x, I x = 1 → 0 ≤ x ∧ x < n ∧ TC es a x
  fst : ∀ y, Ed es a y → I y = 1 ∨ y ∈ q
  nxt : ∀ x, I x = 1 → ∀ y, Ed es x y → I y = 1 ∨ y ∈ q
theorem reachL2 (hn : n ≤ 60) (hl : es.length ≤ 2000) (hR : InR n es) (a : Int) : ∀ (u : Nat), u ≤ 1000000 → ∀ I q, Rinv n es a I q → q.length + 2001 * wh I n ≤ u → ∀ m, u < m →
    ∃ I' : Int → Int, (∀ x, I' x = 1 ↔ TC es a x) ∧ m8_graph_Reach_L2 (tab n (suc es)) m (tab n I) q = m8_graph_Reach_K3 (tab n I') := by
  intro u
  induction u with
  | zero =>
    intro hub I q h hu m hm
    obtain ⟨m, rfl⟩ := dec m hm
    have hq : q = [] := List.eq_nil_of_length_eq_zero (by omega)
    subst hq
    refine ⟨I, fun x => ⟨fun hx => (h.ir x hx).2.2, fun hx => ?_⟩, by rw [m8_graph_Reach_L2, m8_graph_Reach_L2B, if_neg (by simp)]⟩
    induction hx with
    | single h1 => exact (h.fst _ h1).resolve_right (by simp)
    | tail _ h1 ih => exact (h.nxt _ ih _ h1).resolve_right (by simp)
  | succ u ih =>
    intro hub I q h hu m hm
    obtain ⟨m, rfl⟩ := dec m (by omega)
    cases q with
    | nil =>
      refine ⟨I, fun x => ⟨fun hx => (h.ir x hx).2.2, fun hx => ?_⟩, by rw [m8_graph_Reach_L2, m8_graph_Reach_L2B, if_neg (by simp)]⟩
      induction hx with
      | single h1 => exact (h.fst _ h1).resolve_right (by simp)
      | tail _ h1 ih => exact (h.nxt _ ih _ h1).resolve_right (by simp)
    | cons k q =>
      obtain ⟨k0, k1, k2⟩ := h.qr k (List.mem_cons_self ..)
      have hsl := suc_len es k
      have hwl := wh_le I n
      rw [List.length_cons] at hu
      have hc : cut (k :: q) 1 ((k :: q).length : Int) = some q := by
        have := cut_drop (k :: q) 1 (by simp)
        rw [show ((1 : Nat) : Int) = 1 from rfl, List.drop_one, List.tail_cons] at this
        exact this
      rw [m8_graph_Reach_L2, m8_graph_Reach_L2B, if_pos (by rw [List.length_cons]; omega), m8_graph_Reach_K5, idx_hd (by simp), bind1_some, hc, bind1_some, show hd0 (k :: q) = k from rfl, tab_idx k0 k1, bind1_some]
      by_cases c : I k = 0
      · have hwp := wh_put (v := 1) c (by decide) k0 n
        rw [if_pos k1] at hwp
        rw [if_pos c, bind1_some, tab_upd _ k0 k1, bind1_some, tab_idx k0 k1, bind1_some, app_ok (by omega), bind1_some]
        refine ih (by omega) (fun i => if i = k then 1 else I i) (q ++ suc es k) ⟨fun x hx => ?_, fun x => ?_, fun x hx => ?_, fun y hy => ?_, fun x hx y hy => ?_⟩ (by rw [List.length_append]; omega) m (by omega)
        · rcases List.mem_append.1 hx with hx | hx
          · exact h.qr x (List.mem_cons_of_mem _ hx)
          · obtain ⟨_, _, r1, r2⟩ := hR _ (suc_mem.1 hx)
            exact ⟨r1, r2, .tail k2 (suc_mem.1 hx)⟩
        · show (if x = k then (1 : Int) else I x) = 0 ∨ (if x = k then (1 : Int) else I x) = 1
          split
          · exact .inr rfl
          · exact h.b x
        · have hx' : (if x = k then (1 : Int) else I x) = 1 := hx
          by_cases e : x = k
          · rw [e]; exact ⟨k0, k1, k2⟩
          · rw [if_neg e] at hx'; exact h.ir x hx'
        · show (if y = k then (1 : Int) else I y) = 1 ∨ _
          by_cases e : y = k
          · rw [if_pos e]; exact .inl rfl
          · rw [if_neg e]
            rcases h.fst y hy with g | g
            · exact .inl g
            · exact .inr (List.mem_append_left _ ((List.mem_cons.1 g).resolve_left e))
        · show (if y = k then (1 : Int) else I y) = 1 ∨ _
          have hx' : (if x = k then (1 : Int) else I x) = 1 := hx
          by_cases e : y = k
          · rw [if_pos e]; exact .inl rfl
          · rw [if_neg e]
            by_cases e2 : x = k
            · rw [e2] at hy
              exact .inr (List.mem_append_right _ (suc_mem.2 hy))
            · rw [if_neg e2] at hx'
              rcases h.nxt x hx' y hy with g | g
              · exact .inl g
              · exact .inr (List.mem_append_left _ ((List.mem_cons.1 g).resolve_left e))
      · have hk1 := (h.b k).resolve_left c
        rw [if_neg c]
        refine ih (by omega) I q ⟨fun x hx => h.qr x (List.mem_cons_of_mem _ hx), h.b, h.ir, fun y hy => ?_, fun x hx y hy => ?_⟩ (by omega) m (by omega)
        · rcases h.fst y hy with g | g
          · exact .inl g
          · rcases List.mem_cons.1 g with e | e
            · rw [e]; exact .inl hk1
            · exact .inr e
        · rcases h.nxt x hx y hy with g | g
          · exact .inl g
          · rcases List.mem_cons.1 g with e | e
            · rw [e]; exact .inl hk1
            · exact .inr e
theorem reachL1 (hn : n ≤ 60) (I : Int → Int) : ∀ (r i : Nat), i + r = n → ∀ acc : List Int, acc.length ≤ i → ∀ m, r < m →
    m8_graph_Reach_L1 (tab n I) m acc (i : Int) = some (acc ++ selI (fun x => decide (I x = 1)) i r, 0) := by
  intro r
  induction r with
  | zero =>
    intro i hi acc ha m hm
    obtain ⟨m, rfl⟩ := dec m hm
    rw [m8_graph_Reach_L1, m8_graph_Reach_L1B, if_neg (by rw [tab_length]; omega), selI, List.append_nil, m8_graph_Reach_K4]
  | succ r ih =>
    intro i hi acc ha m hm
    obtain ⟨m, rfl⟩ := dec m (by omega)
    have i0 : (0 : Int) ≤ (i : Int) := by omega
    have i1 : (i : Int) < (n : Nat) := by omega
    rw [m8_graph_Reach_L1, m8_graph_Reach_L1B, if_pos (by rw [tab_length]; omega), tab_idx i0 i1, bind1_some, selI]
    by_cases c : I i = 1
    · rw [if_pos c, if_pos (decide_eq_true c), app_ok (by simp only [List.length_cons, List.length_nil]; omega), bind1_some, isucc i (by omega), bind1_some, ih (i + 1) (by omega) _ (by simp only [List.length_append, List.length_cons, List.length_nil]; omega) m (by omega), List.append_assoc, List.singleton_append]
    · rw [if_neg c, if_neg (by simp [c]), isucc i (by omega), bind1_some, ih (i + 1) (by omega) acc (by omega) m (by omega)]
theorem reach_eq (hn : n ≤ 60) (hl : es.length ≤ 2000) (hR : InR n es) (C : Int → Int → Bool) (hC : ∀ i j, C i j = true ↔ TC es i j) (a : Int) : m8_graph_Reach (n : Int) es a = if a < 0 ∨ n ≤ a then some ([], 1) else some (selI (C a) 0 n, 0) := by
  rw [m8_graph_Reach, gcheck n hn es hl hR, bind1_some, if_neg (by simp), m8_graph_Reach_K1]
  by_cases c : a < 0
  · rw [if_pos c, if_pos (.inl c)]
  · by_cases c2 : (n : Int) ≤ a
    · rw [if_neg c, if_pos c2, if_pos (.inr c2)]
    · have a0 : 0 ≤ a := by omega
      have a1 : a < (n : Nat) := by omega
      have hsl := suc_len es a
      have hcl : m25_slices_Clone_int (suc es a) = some (suc es a) := by
        rw [m25_slices_Clone_int, app_ok (by simp only [List.length_nil]; omega), bind1_some, List.nil_append]
      have hz : Rinv n es a (fun _ => 0) (suc es a) := by
        refine ⟨fun x hx => ?_, fun x => .inl rfl, fun x h => ?_, fun y hy => .inr (suc_mem.2 hy), fun x h => ?_⟩
        · obtain ⟨_, _, r1, r2⟩ := hR _ (suc_mem.1 hx)
          exact ⟨r1, r2, .single (suc_mem.1 hx)⟩
        · cases h
        · cases h
      obtain ⟨I, hI, e⟩ := reachL2 hn hl hR a (2000 + 2001 * n) (by omega) (fun _ => 0) (suc es a) hz (by rw [wh_zero]; omega) big (lt_big (by omega))
      have e1 := reachL1 hn I n 0 (by omega) [] (by simp) big (lt_big (by omega))
      rw [List.nil_append, show ((0 : Nat) : Int) = 0 from rfl] at e1
      rw [if_neg c, if_neg c2, if_neg (by omega), m8_graph_Reach_K2, next_eq n hn es hl hR, bind1_some, mk_ok _ (by omega), bind1_some, tab_idx a0 a1, bind1_some, hcl, bind1_some, tab_repl, e, m8_graph_Reach_K3, e1]
      congr 2
      refine selI_ext n 0 fun x _ _ => ?_
      by_cases h : C a x = true
      · rw [h]; exact decide_eq_true ((hI x).2 ((hC a x).1 h))
      · rw [Bool.eq_false_iff.2 h]; exact decide_eq_false fun h2 => h ((hC a x).2 ((hI x).1 h2))
end Go.Proofs.Ytjhcdmcikodgkaa
