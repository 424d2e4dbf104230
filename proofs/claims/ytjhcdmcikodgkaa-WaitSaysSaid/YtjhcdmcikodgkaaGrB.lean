/-
  An order of a graph's nodes: what comes along edges, and both answers.
  Conditions: none.
-/
import Derived.Test.YtjhcdmcikodgkaaGrA
namespace Go.Proofs.Ytjhcdmcikodgkaa
open Go.S
set_option linter.unusedVariables false
set_option linter.unusedSimpArgs false

/-! ### The closure -/
def Ed (es : List TEdge) (i j : Int) : Prop := (⟨i, j⟩ : TEdge) ∈ es
abbrev TC (es : List TEdge) := Relation.TransGen (Ed es)
theorem TC.trans {es : List TEdge} {i j k : Int} (h1 : TC es i j) (h2 : TC es j k) : TC es i k := by
  induction h2 with
  | single h => exact .tail h1 h
  | tail _ h ih => exact .tail ih h
def Sound (es : List TEdge) (C : Int → Int → Bool) : Prop := ∀ i j, C i j = true → TC es i j
def Holds (es : List TEdge) (C : Int → Int → Bool) : Prop := ∀ e ∈ es, C e.From e.To = true
theorem tt_idx {α : Type} {n : Nat} {C : Int → Int → α} {i : Int} (h0 : 0 ≤ i) (h1 : i < n) : idx (tt n C) i = some (tab n (C i)) := tab_idx h0 h1
theorem tt_upd {α : Type} {n : Nat} {C : Int → Int → α} {i j : Int} (v : α) (h0 : 0 ≤ i) (h1 : i < n) (g : Int → α) : upd (tt n C) i (tab n g) = some (tt n fun i' => if i' = i then g else C i') := by
  unfold tt
  rw [tab_upd _ h0 h1]
  congr 1
  apply tab_ext
  intro x _ _
  show (if x = i then tab n g else tab n (C x)) = tab n (if x = i then g else C x)
  by_cases c : x = i
  · rw [if_pos c, if_pos c]
  · rw [if_neg c, if_neg c]
def put (C : Int → Int → Bool) (i j : Int) (b : Bool) : Int → Int → Bool := fun i' => if i' = i then (fun j' => if j' = j then b else C i j') else C i'
theorem put_at (C : Int → Int → Bool) (i j : Int) (b : Bool) (i' j' : Int) : put C i j b i' j' = if i' = i ∧ j' = j then b else C i' j' := by
  unfold put
  by_cases c : i' = i
  · rw [if_pos c]
    by_cases c2 : j' = j
    · rw [if_pos c2, if_pos ⟨c, c2⟩]
    · rw [if_neg c2, if_neg (fun h => c2 h.2), c]
  · rw [if_neg c, if_neg (fun h => c h.1)]
theorem put_ok {n : Nat} {C : Int → Int → Bool} {i j : Int} (b : Bool) (h0 : 0 ≤ i) (h1 : i < n) (g0 : 0 ≤ j) (g1 : j < n) : ∃ z, upd (tab n (C i)) j b = some z ∧ upd (tt n C) i z = some (tt n (put C i j b)) := by
  refine ⟨_, tab_upd b g0 g1, ?_⟩
  rw [tt_upd (j := j) b h0 h1]
  rfl
/-- Along edges, with nodes below k between. -/
def Pk (es : List TEdge) : Nat → Int → Int → Prop
  | 0, i, j => Ed es i j
  | k + 1, i, j => Pk es k i j ∨ (Pk es k i (k : Int) ∧ Pk es k (k : Int) j)
theorem Pk.edge {es : List TEdge} {i j : Int} (h : Ed es i j) : ∀ k, Pk es k i j
  | 0 => h
  | k + 1 => .inl (Pk.edge h k)
theorem Pk.rng {n : Nat} {es : List TEdge} (hR : InR n es) : ∀ {k : Nat} {i j : Int}, Pk es k i j → 0 ≤ i ∧ i < n ∧ 0 ≤ j ∧ j < n
  | 0, i, j, h => hR _ h
  | k + 1, i, j, .inl h => Pk.rng hR h
  | k + 1, i, j, .inr ⟨h1, h2⟩ => ⟨(Pk.rng hR h1).1, (Pk.rng hR h1).2.1, (Pk.rng hR h2).2.2⟩
theorem Pk.via {es : List TEdge} {i j l : Int} (j0 : 0 ≤ j) : ∀ {k : Nat}, j < k → Pk es k i j → Pk es k j l → Pk es k i l
  | 0, hj, _, _ => absurd hj (by omega)
  | k + 1, hj, h1, h2 => by
    by_cases c : j = k
    · rw [c] at h1 h2
      have a1 : Pk es k i (k : Int) := by
        rcases h1 with h | h
        · exact h
        · exact h.1
      have a2 : Pk es k (k : Int) l := by
        rcases h2 with h | h
        · exact h
        · exact h.2
      exact .inr ⟨a1, a2⟩
    · have hj' : j < k := by omega
      rcases h1 with h1 | ⟨h1, h1'⟩ <;> rcases h2 with h2 | ⟨h2, h2'⟩
      · exact .inl (Pk.via j0 hj' h1 h2)
      · exact .inr ⟨Pk.via j0 hj' h1 h2, h2'⟩
      · exact .inr ⟨h1, Pk.via j0 hj' h1' h2⟩
      · exact .inr ⟨h1, h2'⟩
theorem Pk.of_tc {n : Nat} {es : List TEdge} (hR : InR n es) {i j : Int} (h : TC es i j) : Pk es n i j := by
  induction h with
  | single h => exact Pk.edge h n
  | tail _ h ih =>
    obtain ⟨_, _, h1, h2⟩ := Pk.rng hR ih
    exact Pk.via h1 h2 ih (Pk.edge h n)
def Full (es : List TEdge) (k : Nat) (C : Int → Int → Bool) : Prop := ∀ i j, Pk es k i j → C i j = true
def Grow (C C' : Int → Int → Bool) : Prop := ∀ i j, C i j = true → C' i j = true
theorem closeL3 (n : Nat) (hn : n ≤ 60) (es : List TEdge) (i k : Nat) (hi : i < n) (hk : k < n) (go2 : List (List Bool) → Int → Option (List (List Bool))) : ∀ (r j : Nat), j + r = n → ∀ C, Sound es C → Full es k C → ∀ m, r < m →
    ∃ C', Sound es C' ∧ Full es k C' ∧ Grow C C' ∧ (∀ q : Int, j ≤ q → q < n → Pk es (k + 1) i q → C' i q = true) ∧ m14_quirref_Closure_L3 (n : Int) (i : Int) (k : Int) go2 m (tt n C) (j : Int) = m14_quirref_Closure_K5 (i : Int) go2 (tt n C') := by
  intro r
  induction r with
  | zero =>
    intro j hj C hS hF m hm
    obtain ⟨m, rfl⟩ := dec m hm
    exact ⟨C, hS, hF, fun _ _ h => h, fun q h1 h2 => by omega, by rw [m14_quirref_Closure_L3, m14_quirref_Closure_L3B, if_neg (by omega)]⟩
  | succ r ih =>
    intro j hj C hS hF m hm
    obtain ⟨m, rfl⟩ := dec m (by omega)
    have i0 : (0 : Int) ≤ (i : Int) := by omega
    have i1 : (i : Int) < (n : Nat) := by omega
    have j0 : (0 : Int) ≤ (j : Int) := by omega
    have j1 : (j : Int) < (n : Nat) := by omega
    have k0 : (0 : Int) ≤ (k : Int) := by omega
    have k1 : (k : Int) < (n : Nat) := by omega
    -- whatever is put: sound, and what is asked of this place holds
    have step : ∀ b : Bool, (C i j = true → b = true) → (b = true → TC es i j) → (Pk es (k + 1) i j → b = true) →
        ∃ C', Sound es C' ∧ Full es k C' ∧ Grow C C' ∧ (∀ q : Int, j ≤ q → q < n → Pk es (k + 1) i q → C' i q = true) ∧ m14_quirref_Closure_L3 (n : Int) (i : Int) (k : Int) go2 m (tt n (put C i j b)) ((j + 1 : Nat) : Int) = m14_quirref_Closure_K5 (i : Int) go2 (tt n C') := by
      intro b hb1 hb2 hb3
      have hg : Grow C (put C i j b) := by
        intro i' j' h
        rw [put_at]
        by_cases q : i' = i ∧ j' = j
        · rw [if_pos q]; rw [q.1, q.2] at h; exact hb1 h
        · rw [if_neg q]; exact h
      obtain ⟨C', h1, h2, h3, h4, h5⟩ := ih (j + 1) (by omega) (put C i j b) (fun i' j' h => by
        rw [put_at] at h
        by_cases q : i' = i ∧ j' = j
        · rw [if_pos q] at h; rw [q.1, q.2]; exact hb2 h
        · rw [if_neg q] at h; exact hS _ _ h) (fun i' j' h => hg _ _ (hF _ _ h)) m (by omega)
      refine ⟨C', h1, h2, fun _ _ h => h3 _ _ (hg _ _ h), fun q q1 q2 q3 => ?_, h5⟩
      by_cases c : q = j
      · rw [c] at q3 ⊢
        refine h3 _ _ ?_
        rw [put_at, if_pos ⟨rfl, rfl⟩]
        exact hb3 q3
      · exact h4 q (by omega) q2 q3
    rw [m14_quirref_Closure_L3, m14_quirref_Closure_L3B, if_pos j1, tt_idx i0 i1, bind1_some, bind1_some, tab_idx j0 j1, bind1_some]
    by_cases c : C i j = true
    · obtain ⟨z, h1, h2⟩ := put_ok (n := n) (C := C) (i := i) (j := j) true i0 i1 j0 j1
      rw [if_pos c, bind1_some, h1, bind1_some, h2, bind1_some, isucc j (by omega), bind1_some]
      exact step true (fun _ => rfl) (fun _ => hS _ _ c) (fun _ => rfl)
    · have c' : C i j = false := by simpa using c
      rw [if_neg c, bind1_some, tab_idx k0 k1, bind1_some]
      by_cases c1 : C i k = true
      · obtain ⟨z, h1, h2⟩ := put_ok (n := n) (C := C) (i := i) (j := j) (C k j) i0 i1 j0 j1
        rw [if_pos c1, tt_idx k0 k1, bind1_some, tab_idx j0 j1, bind1_some, bind1_some, h1, bind1_some, h2, bind1_some, isucc j (by omega), bind1_some]
        refine step (C k j) (fun h => absurd h c) (fun h => (hS _ _ c1).trans (hS _ _ h)) (fun h => ?_)
        rcases h with h | h
        · exact absurd (hF _ _ h) c
        · exact hF _ _ h.2
      · obtain ⟨z, h1, h2⟩ := put_ok (n := n) (C := C) (i := i) (j := j) false i0 i1 j0 j1
        rw [if_neg c1, bind1_some, h1, bind1_some, h2, bind1_some, isucc j (by omega), bind1_some]
        refine step false (fun h => absurd h c) (fun h => by cases h) (fun h => ?_)
        rcases h with h | h
        · exact absurd (hF _ _ h) c
        · exact absurd (hF _ _ h.1) c1
theorem closeL2 (n : Nat) (hn : n ≤ 60) (es : List TEdge) (hR : InR n es) (k : Nat) (hk : k < n) (go1 : List (List Bool) → Int → Option (List (List Bool))) : ∀ (r i : Nat), i + r = n → ∀ C, Sound es C → Full es k C → ∀ m, r < m →
    ∃ C', Sound es C' ∧ Full es k C' ∧ Grow C C' ∧ (∀ p q : Int, i ≤ p → Pk es (k + 1) p q → C' p q = true) ∧ m14_quirref_Closure_L2 (n : Int) (k : Int) go1 m (tt n C) (i : Int) = m14_quirref_Closure_K4 (k : Int) go1 (tt n C') := by
  intro r
  induction r with
  | zero =>
    intro i hi C hS hF m hm
    obtain ⟨m, rfl⟩ := dec m hm
    refine ⟨C, hS, hF, fun _ _ h => h, fun p q h1 h2 => ?_, by rw [m14_quirref_Closure_L2, m14_quirref_Closure_L2B, if_neg (by omega)]⟩
    have := Pk.rng hR h2
    omega
  | succ r ih =>
    intro i hi C hS hF m hm
    obtain ⟨m, rfl⟩ := dec m (by omega)
    obtain ⟨C1, hS1, hF1, hg1, hp1, h1⟩ := closeL3 n hn es i k (by omega) hk (m14_quirref_Closure_L2 (n : Int) (k : Int) go1 m) n 0 (by omega) C hS hF big (lt_big (by omega))
    rw [show ((0 : Nat) : Int) = 0 from rfl] at h1
    obtain ⟨C2, hS2, hF2, hg2, hp2, h2⟩ := ih (i + 1) (by omega) C1 hS1 hF1 m (by omega)
    refine ⟨C2, hS2, hF2, fun _ _ h => hg2 _ _ (hg1 _ _ h), fun p q q1 q2 => ?_, by rw [m14_quirref_Closure_L2, m14_quirref_Closure_L2B, if_pos (by omega), h1, m14_quirref_Closure_K5, isucc i (by omega), bind1_some, h2]⟩
    by_cases c : p = i
    · rw [c] at q2 ⊢
      obtain ⟨_, _, r1, r2⟩ := Pk.rng hR q2
      exact hg2 _ _ (hp1 q (by omega) r2 q2)
    · exact hp2 p q (by omega) q2
theorem closeL1 (n : Nat) (hn : n ≤ 60) (es : List TEdge) (hR : InR n es) : ∀ (r k : Nat), k + r = n → ∀ C, Sound es C → Full es k C → ∀ m, r < m →
    ∃ C', Sound es C' ∧ Full es n C' ∧ m14_quirref_Closure_L1 (n : Int) m (tt n C) (k : Int) = some (tt n C') := by
  intro r
  induction r with
  | zero =>
    intro k hk C hS hF m hm
    obtain ⟨m, rfl⟩ := dec m hm
    rw [show k = n by omega] at hF
    exact ⟨C, hS, hF, by rw [m14_quirref_Closure_L1, m14_quirref_Closure_L1B, if_neg (by omega), m14_quirref_Closure_K3]⟩
  | succ r ih =>
    intro k hk C hS hF m hm
    obtain ⟨m, rfl⟩ := dec m (by omega)
    obtain ⟨C1, hS1, hF1, hg1, hp1, h1⟩ := closeL2 n hn es hR k (by omega) (m14_quirref_Closure_L1 (n : Int) m) n 0 (by omega) C hS hF big (lt_big (by omega))
    rw [show ((0 : Nat) : Int) = 0 from rfl] at h1
    obtain ⟨C2, hS2, hF2, h2⟩ := ih (k + 1) (by omega) C1 hS1 (fun p q h => hp1 p q (by have := Pk.rng hR h; omega) h) m (by omega)
    exact ⟨C2, hS2, hF2, by rw [m14_quirref_Closure_L1, m14_quirref_Closure_L1B, if_pos (by omega), h1, m14_quirref_Closure_K4, isucc k (by omega), bind1_some, h2]⟩
theorem edgesL4 (n : Nat) (es : List TEdge) (hl : es.length ≤ 2000) (h : InR n es) : ∀ (r i : Nat), i + r = es.length → ∀ C, Sound es C → Holds (es.take i) C → ∀ m, r < m →
    ∃ C', Sound es C' ∧ Holds es C' ∧ m14_quirref_Closure_L4 es (n : Int) m (tt n C) (i : Int) = m14_quirref_Closure_K2 (n : Int) (tt n C') := by
  intro r
  induction r with
  | zero =>
    intro i hi C hS hH m hm
    obtain ⟨m, rfl⟩ := dec m hm
    rw [List.take_of_length_le (by omega)] at hH
    exact ⟨C, hS, hH, by rw [m14_quirref_Closure_L4, m14_quirref_Closure_L4B, if_neg (by omega)]⟩
  | succ r ih =>
    intro i hi C hS hH m hm
    obtain ⟨m, rfl⟩ := dec m (by omega)
    have h1 : i < es.length := by omega
    obtain ⟨g1, g2, g3, g4⟩ := h es[i] (List.getElem_mem h1)
    obtain ⟨z, q1, q2⟩ := put_ok (n := n) (C := C) true g1 g2 g3 g4
    rw [m14_quirref_Closure_L4, m14_quirref_Closure_L4B, if_pos (by omega), idx_ok h1, bind1_some, tt_idx g1 g2, bind1_some, tab_idx g3 g4, bind1_some, q1, bind1_some, q2, bind1_some, isucc i (by omega), bind1_some]
    refine ih (i + 1) (by omega) _ (fun i' j' q => ?_) (fun e he => ?_) m (by omega)
    · rw [put_at] at q
      by_cases q3 : i' = es[i].From ∧ j' = es[i].To
      · rw [q3.1, q3.2]
        exact .single (List.getElem_mem h1)
      · rw [if_neg q3] at q; exact hS _ _ q
    · rw [put_at]
      by_cases q3 : e.From = es[i].From ∧ e.To = es[i].To
      · rw [if_pos q3]
      · rw [if_neg q3]
        rw [take_snoc h1, List.mem_append, List.mem_singleton] at he
        rcases he with he | he
        · exact hH e he
        · rw [he] at q3; exact absurd ⟨rfl, rfl⟩ q3
theorem rowsL5 (n : Nat) (hn : n ≤ 60) (es : List TEdge) (l1 : List (List Bool)) (hl : l1.length = n) : ∀ (r i : Nat), i + r = n → ∀ m, r < m →
    m14_quirref_Closure_L5 l1 (n : Int) es m (tab n fun x => if x < i then List.replicate n false else []) (i : Int) = m14_quirref_Closure_K1 es (n : Int) (tt n fun _ _ => false) := by
  intro r
  induction r with
  | zero =>
    intro i hi m hm
    obtain ⟨m, rfl⟩ := dec m hm
    rw [m14_quirref_Closure_L5, m14_quirref_Closure_L5B, if_neg (by omega)]
    congr 1
    apply tab_ext
    intro x _ _
    rw [if_pos (by omega), tab_repl]
  | succ r ih =>
    intro i hi m hm
    obtain ⟨m, rfl⟩ := dec m (by omega)
    have i0 : (0 : Int) ≤ (i : Int) := by omega
    have i1 : (i : Int) < (n : Nat) := by omega
    rw [m14_quirref_Closure_L5, m14_quirref_Closure_L5B, if_pos (by omega), mk_ok _ (by omega), bind1_some, tab_idx i0 i1, bind1_some, tab_upd _ i0 i1, bind1_some, isucc i (by omega), bind1_some, ← ih (i + 1) (by omega) m (by omega)]
    congr 1
    apply tab_ext
    intro x _ _
    by_cases c : x = i
    · rw [if_pos c, if_pos (by omega)]
    · rw [if_neg c]
      by_cases c2 : x < i
      · rw [if_pos c2, if_pos (by omega)]
      · rw [if_neg c2, if_neg (by omega)]
theorem closure_tc (n : Nat) (hn : n ≤ 60) (es : List TEdge) (hl : es.length ≤ 2000) (h : InR n es) : ∃ C, (∀ i j, C i j = true ↔ TC es i j) ∧ m14_quirref_Closure (n : Int) es = some (tt n C) := by
  obtain ⟨C1, hS1, hH1, h1⟩ := edgesL4 n es hl h es.length 0 (by omega) (fun _ _ => false) (fun _ _ h => by cases h) (fun e he => by simp at he) big (lt_big (by omega))
  obtain ⟨C2, hS2, hF2, h2⟩ := closeL1 n hn es h n 0 (by omega) C1 hS1 (fun i j hp => hH1 ⟨i, j⟩ hp) big (lt_big (by omega))
  have h3 := rowsL5 n hn es (tab n fun _ => ([] : List Bool)) (tab_length ..) n 0 (by omega) big (lt_big (by omega))
  have e : (tab n fun x : Int => if x < ((0 : Nat) : Int) then List.replicate n false else []) = tab n fun _ => ([] : List Bool) := tab_ext fun x h0 _ => by rw [if_neg (by omega)]
  rw [e] at h3
  rw [show ((0 : Nat) : Int) = 0 from rfl] at h1 h2 h3
  refine ⟨C2, fun i j => ⟨hS2 i j, fun ht => hF2 i j (Pk.of_tc h ht)⟩, ?_⟩
  rw [m14_quirref_Closure, mk_ok _ (by omega), bind1_some, tab_repl, h3, m14_quirref_Closure_K1, h1, m14_quirref_Closure_K2, h2]
theorem closure_eq (n : Nat) (hn : n ≤ 60) (es : List TEdge) (hl : es.length ≤ 2000) (h : InR n es) : ∃ C, Sound es C ∧ Holds es C ∧ m14_quirref_Closure (n : Int) es = some (tt n C) := by
  obtain ⟨C, h1, h2⟩ := closure_tc n hn es hl h
  exact ⟨C, fun i j => (h1 i j).1, fun e he => (h1 _ _).2 (.single he), h2⟩

/-! ### Both answers -/
def ah (S : Int → List Int) (D : Int → Bool) (n : Nat) (x : Int) : Int := if D x = true then -1 else cnt S D x n
def Closed (es : List TEdge) (D : Int → Bool) : Prop := ∀ i k, D k = true → Ed es i k → D i = true
theorem closed_tc {es : List TEdge} {D : Int → Bool} (h : Closed es D) {i k : Int} (ht : TC es i k) (hk : ∀ j, Ed es j k → D j = true) : D i = true := by
  induction ht with
  | single h1 => exact hk _ h1
  | tail _ h1 ih => exact ih fun j hj => h j _ (hk _ h1) hj
theorem ready_eq {n : Nat} {es : List TEdge} (hR : InR n es) {D : Int → Bool} {C : Int → Int → Bool} (hS : Sound es C) (hH : Holds es C) (hD : Closed es D) (k : Int) : decide (ah (suc es) D n k = 0) = refReady n D C k := by
  have key : ah (suc es) D n k = 0 ↔ refReady n D C k = true := by
    unfold ah refReady
    by_cases c : D k = true
    · rw [if_pos c, c]; simp
    · have c' : D k = false := by simpa using c
      rw [if_neg c, c', Bool.not_false, Bool.true_and, cnt_zero, allI_iff]
      constructor
      · intro h i h0 h1
        by_cases q : C i k = true
        · have : D i = true := closed_tc hD (hS i k q) fun j hj => by
            obtain ⟨q1, q2, _, _⟩ := hR _ hj
            exact h j q1 q2 (suc_mem.2 hj)
          rw [this, Bool.true_or]
        · have q' : C i k = false := by simpa using q
          rw [q', Bool.not_false, Bool.or_true]
      · intro h p h0 h1 hx
        have h2 := h p (by omega) (by omega)
        have h3 : C p k = true := hH ⟨p, k⟩ (suc_mem.1 hx)
        rw [h3, Bool.not_true, Bool.or_false] at h2
        exact h2
  by_cases c : refReady n D C k = true
  · rw [c]; exact decide_eq_true (key.2 c)
  · have c' : refReady n D C k = false := by simpa using c
    rw [c']; exact decide_eq_false fun h => c (key.1 h)
theorem orderLoop (n : Nat) (hn : n ≤ 60) (es : List TEdge) (hl : es.length ≤ 2000) (hR : InR n es) (C : Int → Int → Bool) (hS : Sound es C) (hH : Holds es C) : ∀ (r : Nat) (D : Int → Bool) (out : List Int), Closed es D → out.length + r = n → (∀ x ∈ out, 0 ≤ x ∧ x < n) → ∀ m m', r < m → r < m' →
    ∃ z ok, m6_graph_Order_L1 (n : Int) (tab n (suc es)) m (tab n (ah (suc es) D n)) out = some (z, if ok = true then 0 else 11) ∧ m10_quirref_Order_L1 (n : Int) (tt n C) m' (tab n D) out = some (z, ok) ∧ (∀ x ∈ z, 0 ≤ x ∧ x < n) ∧ z.length ≤ n ∧ (ok = false → z = []) := by
  have hsl : ∀ x, (suc es x).length ≤ 2000 := fun x => Nat.le_trans (suc_len es x) hl
  have hsr : ∀ x, ∀ y ∈ suc es x, 0 ≤ y ∧ y < n := fun x y hy => by
    obtain ⟨_, _, h1, h2⟩ := hR _ (suc_mem.1 hy)
    exact ⟨h1, h2⟩
  intro r
  induction r with
  | zero =>
    intro D out hD ho hx m m' hm hm'
    obtain ⟨m, rfl⟩ := dec m hm
    obtain ⟨m', rfl⟩ := dec m' hm'
    refine ⟨out, true, ?_, ?_, hx, by omega, by simp⟩
    · rw [m6_graph_Order_L1, m6_graph_Order_L1B, if_neg (by omega), m6_graph_Order_K3]; rfl
    · rw [m10_quirref_Order_L1, m10_quirref_Order_L1B, if_neg (by omega), m10_quirref_Order_K1]
  | succ r ih =>
    intro D out hD ho hx m m' hm hm'
    obtain ⟨m, rfl⟩ := dec m (by omega)
    obtain ⟨m', rfl⟩ := dec m' (by omega)
    have h1 := indexL n hn (ah (suc es) D n) n 0 (by omega) big (lt_big (by omega))
    have h2 := searchL2 n hn D C out (m10_quirref_Order_L1 (n : Int) (tt n C) m') n 0 (by omega) big (lt_big (by omega))
    have h3 : fstI (fun x => decide (ah (suc es) D n x = 0)) 0 n = fstI (refReady n D C) 0 n := fstI_ext n 0 fun k _ _ => ready_eq hR hS hH hD k
    rw [show ((0 : Nat) : Int) = 0 from rfl] at h1 h2
    rw [m6_graph_Order_L1, m6_graph_Order_L1B, if_pos (by omega), m6_graph_Order_K4, m21_slices_Index_int, h1, bind1_some, h3, m10_quirref_Order_L1, m10_quirref_Order_L1B, if_pos (show (out.length : Int) < (n : Int) by omega), m10_quirref_Order_K2, h2, m10_quirref_Order_K3]
    rcases fstI_out (P := refReady n D C) n 0 with h4 | ⟨h4, h5, h6⟩
    · rw [h4, if_pos (by omega), if_pos (by omega)]
      exact ⟨[], false, rfl, rfl, by simp, by simp, fun _ => rfl⟩
    · generalize fstI (refReady n D C) 0 n = k at h4 h5 h6
      have k0 : 0 ≤ k := by omega
      have k1 : k < n := by omega
      have h7 : ah (suc es) D n k = 0 := by
        have := ready_eq hR hS hH hD k
        rw [h6] at this
        exact of_decide_eq_true this
      have hDk : D k = false := by
        cases q : D k with
        | false => rfl
        | true => rw [ah, q, if_pos rfl] at h7; omega
      have hcz : cnt (suc es) D k n = 0 := by rw [ah, hDk, if_neg ff] at h7; exact h7
      have hpre : ∀ p, Ed es p k → D p = true := fun p hp => by
        obtain ⟨q1, q2, _, _⟩ := hR _ hp
        exact (cnt_zero n).1 hcz p q1 q2 (suc_mem.2 hp)
      have hbd : ∀ x, -1000 ≤ (if x = k then (-1 : Int) else ah (suc es) D n x) ∧ (if x = k then (-1 : Int) else ah (suc es) D n x) ≤ 1000000 := by
        intro x
        have := cnt_le hsl D x n
        unfold ah
        split
        · omega
        · split <;> omega
      have h8 := subLoop n (suc es k) (hsr k) (hsl k) out k (m6_graph_Order_L1 (n : Int) (tab n (suc es)) m) (suc es k).length 0 (by omega) (fun x => if x = k then (-1 : Int) else ah (suc es) D n x) (fun x => by
        have := hbd x
        have := hsl k
        omega) big (lt_big (by have := hsl k; omega))
      rw [show ((0 : Nat) : Int) = 0 from rfl, List.drop_zero] at h8
      have hD' : Closed es (fun y => if y = k then true else D y) := by
        intro i y hy hi
        show (if i = k then true else D i) = true
        by_cases q : y = k
        · rw [q] at hi
          by_cases q2 : i = k
          · rw [if_pos q2]
          · rw [if_neg q2]; exact hpre i hi
        · have hy' : D y = true := by simpa [q] using hy
          by_cases q2 : i = k
          · rw [if_pos q2]
          · rw [if_neg q2]; exact hD i y hy' hi
      have he : (tab n fun x => (if x = k then (-1 : Int) else ah (suc es) D n x) - ((suc es k).count x : Int)) = tab n (ah (suc es) (fun y => if y = k then true else D y) n) := by
        apply tab_ext
        intro x _ _
        by_cases q : x ∈ suc es k
        · have hxk : x ≠ k := by
            rintro rfl
            have := hpre x (suc_mem.1 q)
            rw [hDk] at this
            cases this
          have hDx : D x = false := by
            cases q2 : D x with
            | false => rfl
            | true =>
              have := hD k x q2 (suc_mem.1 q)
              rw [hDk] at this
              cases this
          have := cnt_pick (S := suc es) (x := x) hDk k0 n
          rw [if_pos k1] at this
          rw [if_neg hxk, ah, ah, if_neg hxk, hDx, if_neg ff, if_neg ff, this]
        · have hc0 : (suc es k).count x = 0 := List.count_eq_zero_of_not_mem q
          have := cnt_pick (S := suc es) (x := x) hDk k0 n
          rw [if_pos k1, hc0] at this
          rw [hc0, ah, ah]
          by_cases q2 : x = k
          · rw [if_pos q2, if_pos q2, if_pos rfl]; rfl
          · rw [if_neg q2, if_neg q2, this]
            by_cases q3 : D x = true
            · rw [if_pos q3, if_pos q3]; rfl
            · rw [if_neg q3, if_neg q3]
      have hap : app out [k] = some (out ++ [k]) := app_ok (by simp; omega)
      have hdn : tab n (fun y => if y = k then true else D y) = tab n fun y => if y = k then true else D y := rfl
      rw [if_neg (by omega), if_neg (by omega), m6_graph_Order_K5, tab_idx k0 k1, bind1_some, tab_upd _ k0 k1, bind1_some, tab_idx k0 k1, bind1_some, h8, m6_graph_Order_K6, hap, bind1_some, he, tab_idx k0 k1, bind1_some, tab_upd _ k0 k1, bind1_some, bind1_some]
      refine ih _ _ hD' (by simp; omega) (fun x hx' => ?_) m m' (by omega) (by omega)
      rcases List.mem_append.1 hx' with h9 | h9
      · exact hx x h9
      · rw [List.mem_singleton] at h9; rw [h9]; exact ⟨k0, k1⟩
theorem order_eq (n : Nat) (hn : n ≤ 60) (es : List TEdge) (hl : es.length ≤ 2000) (hR : InR n es) : ∃ z ok, m6_graph_Order (n : Int) es = some (z, if ok = true then 0 else 11) ∧ m10_quirref_Order (n : Int) es = some (z, ok) ∧ (∀ x ∈ z, 0 ≤ x ∧ x < n) ∧ z.length ≤ n ∧ (ok = false → z = []) := by
  have hsl : ∀ x, (suc es x).length ≤ 2000 := fun x => Nat.le_trans (suc_len es x) hl
  have hsr : ∀ x, ∀ y ∈ suc es x, 0 ≤ y ∧ y < n := fun x y hy => by
    obtain ⟨_, _, h1, h2⟩ := hR _ (suc_mem.1 hy)
    exact ⟨h1, h2⟩
  obtain ⟨C, hS, hH, hC⟩ := closure_eq n hn es hl hR
  obtain ⟨z, ok, h1, h2, h3⟩ := orderLoop n hn es hl hR C hS hH n (fun _ => false) [] (fun i k h => by cases h) (by simp) (by simp) big big (lt_big (by omega)) (lt_big (by omega))
  have h4 := allLoop n hn (suc es) hsl hsr n 0 (by omega) big (lt_big (by omega))
  have e1 : (tab n fun x => cnt (suc es) (fun _ => false) x 0) = tab n fun _ => 0 := rfl
  have e2 : (tab n fun x => cnt (suc es) (fun _ => false) x n) = tab n (ah (suc es) (fun _ => false) n) := tab_ext fun x _ _ => by rw [ah, if_neg ff]
  rw [e1, e2, show ((0 : Nat) : Int) = 0 from rfl] at h4
  refine ⟨z, ok, ?_, ?_, h3⟩
  · rw [m6_graph_Order, gcheck n hn es hl hR, bind1_some, if_neg (by simp), m6_graph_Order_K1, next_eq n hn es hl hR, bind1_some, mk_ok _ (by omega), bind1_some, tab_repl, h4, m6_graph_Order_K2, h1]
  · rw [m10_quirref_Order, hC, bind1_some, mk_ok _ (by omega), bind1_some, tab_repl, h2]
end Go.Proofs.Ytjhcdmcikodgkaa
