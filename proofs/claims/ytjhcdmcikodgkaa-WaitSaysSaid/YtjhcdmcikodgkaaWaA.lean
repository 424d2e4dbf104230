/-
  Who waits for ever: what slices.DeleteFunc leaves, and both answers.
  Conditions: none.
-/
import Derived.Test.YtjhcdmcikodgkaaWaM
import Derived.Test.YtjhcdmcikodgkaaGrF
namespace Go.Proofs.Ytjhcdmcikodgkaa
open Go.S
set_option linter.unusedVariables false
set_option linter.unusedSimpArgs false

/-! ### What slices.DeleteFunc leaves, with a state beside -/
section
variable {α ρ σ : Type} {keep : α → Bool} {l0 : List α} {z : α} {S : Nat → σ}
theorem delS_loop {F : Nat → List α → Int → Int → σ → Option ρ} (hl : l0.length ≤ 1000000) (K : List α → σ → Option ρ)
    (hend : ∀ n (l : List α) (i : Nat), l.length = l0.length → F (n + 1) l (i : Nat) (l.length : Nat) (S l0.length) = bind1 (cut l (i : Nat) l.length) fun _ => bind1 (clr l (i : Nat) z) fun l59 => bind1 (cut l59 0 (i : Nat)) fun l60 => K l60 (S l0.length))
    (hstep : ∀ n (l : List α) (i j : Nat) (h : j < l.length) (h0 : j < l0.length), l.length = l0.length → l[j] = l0[j] → F (n + 1) l (i : Nat) (j : Nat) (S j) = if keep l0[j] = true then bind1 (idx l (i : Nat)) fun _ => bind1 (upd l (i : Nat) l0[j]) fun l67 => bind1 (i64 ((i : Nat) + 1)) fun x68 => bind1 (i64 ((j : Nat) + 1)) fun x69 => F n l67 x68 x69 (S (j + 1)) else bind1 (i64 ((j : Nat) + 1)) fun x70 => F n l (i : Nat) x70 (S (j + 1))) :
    ∀ (r j : Nat), j + r = l0.length → ∀ (l : List α) (i : Nat) (n : Nat), r < n → i < j → l.length = l0.length → l.take i = (l0.take j).filter keep → l.drop j = l0.drop j → F n l (i : Nat) (j : Nat) (S j) = K (l0.filter keep) (S l0.length) := by
  intro r
  induction r with
  | zero =>
    intro j hj l i n hn hij hll ht hd
    obtain ⟨n, rfl⟩ := dec n hn
    have e : j = l.length := by omega
    subst e
    have e1 : l0.take l.length = l0 := List.take_of_length_le (by omega)
    rw [e1] at ht
    have e2 : (l.take i ++ List.replicate (l.length - i) z).take i = l.take i := List.take_left' (by rw [List.length_take]; omega)
    have e3 := hend n l i hll
    rw [← hll] at e3
    rw [e3, cut_drop _ _ (by omega), bind1_some, clr_ok _ _ _ (by omega), bind1_some, cut_take _ _ (by rw [List.length_append, List.length_take, List.length_replicate]; omega), bind1_some, e2, ht, hll]
  | succ r ih =>
    intro j hj l i n hn hij hll ht hd
    obtain ⟨n, rfl⟩ := dec n (by omega)
    have h1 : j < l.length := by omega
    have h2 : j < l0.length := by omega
    have e1 : l[j] = l0[j] := by
      have h3 := congrArg List.head? hd
      rw [drop_cons h1, drop_cons h2] at h3
      exact Option.some.inj h3
    have e2 : l.drop (j + 1) = l0.drop (j + 1) := by
      have h3 := congrArg List.tail hd
      rw [drop_cons h1, drop_cons h2] at h3
      exact h3
    rw [hstep n l i j h1 h2 hll e1]
    by_cases c : keep l0[j] = true
    · rw [if_pos c, idx_ok (by omega), bind1_some, upd_ok _ (by omega), bind1_some, isucc i (by omega), bind1_some, isucc j (by omega), bind1_some]
      refine ih (j + 1) (by omega) _ (i + 1) n (by omega) (by omega) (by simpa using hll) ?_ ?_
      · rw [take_snoc (by simp; omega), List.getElem_set_self, List.take_set_of_le (Nat.le_refl _), ht, take_snoc h2, List.filter_append]
        simp [c]
      · rw [List.drop_set_of_lt (by omega), e2]
    · rw [if_neg c, isucc j (by omega), bind1_some]
      refine ih (j + 1) (by omega) l i n (by omega) (by omega) hll ?_ e2
      rw [ht, take_snoc h2, List.filter_append]
      simp [c]
theorem delS_all {F1 : Nat → Int → σ → Option ρ} {F : Nat → List α → Int → Int → σ → Option ρ} (hl : l0.length ≤ 1000000) (K : List α → σ → Option ρ)
    (hend : ∀ n (l : List α) (i : Nat), l.length = l0.length → F (n + 1) l (i : Nat) (l.length : Nat) (S l0.length) = bind1 (cut l (i : Nat) l.length) fun _ => bind1 (clr l (i : Nat) z) fun l59 => bind1 (cut l59 0 (i : Nat)) fun l60 => K l60 (S l0.length))
    (hstep : ∀ n (l : List α) (i j : Nat) (h : j < l.length) (h0 : j < l0.length), l.length = l0.length → l[j] = l0[j] → F (n + 1) l (i : Nat) (j : Nat) (S j) = if keep l0[j] = true then bind1 (idx l (i : Nat)) fun _ => bind1 (upd l (i : Nat) l0[j]) fun l67 => bind1 (i64 ((i : Nat) + 1)) fun x68 => bind1 (i64 ((j : Nat) + 1)) fun x69 => F n l67 x68 x69 (S (j + 1)) else bind1 (i64 ((j : Nat) + 1)) fun x70 => F n l (i : Nat) x70 (S (j + 1)))
    (hend1 : ∀ n, F1 (n + 1) (l0.length : Nat) (S l0.length) = K l0 (S l0.length))
    (hstep1 : ∀ n i (h : i < l0.length), F1 (n + 1) (i : Nat) (S i) = if keep l0[i] = true then bind1 (i64 ((i : Nat) + 1)) fun x => F1 n x (S (i + 1)) else bind1 (i64 ((i : Nat) + 1)) fun x => F big l0 (i : Nat) x (S (i + 1))) : F1 big 0 (S 0) = K (l0.filter keep) (S l0.length) := by
  have key : ∀ (r i : Nat), i + r = l0.length → (∀ q (h : q < l0.length), q < i → keep l0[q] = true) → ∀ n, r < n → F1 n (i : Nat) (S i) = K (l0.filter keep) (S l0.length) := by
    intro r
    induction r with
    | zero =>
      intro i hi hk n hn
      obtain ⟨n, rfl⟩ := dec n hn
      obtain rfl : i = l0.length := by omega
      rw [hend1, List.filter_eq_self.2]
      intro x hx
      obtain ⟨q, hq, rfl⟩ := List.getElem_of_mem hx
      exact hk q hq hq
    | succ r ih =>
      intro i hi hk n hn
      obtain ⟨n, rfl⟩ := dec n (by omega)
      have h1 : i < l0.length := by omega
      rw [hstep1 n i h1]
      by_cases c : keep l0[i] = true
      · rw [if_pos c, isucc i (by omega), bind1_some]
        refine ih (i + 1) (by omega) (fun q hq hqi => ?_) n (by omega)
        by_cases c2 : q = i
        · subst c2; exact c
        · exact hk q hq (by omega)
      · rw [if_neg c, isucc i (by omega), bind1_some]
        refine delS_loop hl K hend hstep (l0.length - (i + 1)) (i + 1) (by omega) l0 i big (lt_big (by omega)) (by omega) rfl ?_ rfl
        rw [take_snoc h1, List.filter_append, List.filter_eq_self.2]
        · simp [c]
        · intro x hx
          obtain ⟨q, hq, rfl⟩ := List.getElem_of_mem hx
          rw [List.getElem_take]
          rw [List.length_take] at hq
          exact hk q (by omega) (by omega)
  exact key l0.length 0 (by omega) (fun q h h2 => absurd h2 (by omega)) big (lt_big (by omega))
end

/-! ### Counts -/
def from_ (x : Int) (e : TEdge) : Bool := decide (e.From = x)
def both_ (k x : Int) (e : TEdge) : Bool := decide (e.To = k) && decide (e.From = x)
theorem countP_split {α : Type} (p q : α → Bool) : ∀ l : List α, l.countP p = (l.filter q).countP p + l.countP (fun e => !q e && p e)
  | [] => rfl
  | a :: l => by
    have := countP_split p q l
    rw [List.countP_cons, List.countP_cons, List.filter_cons]
    by_cases c : q a = true
    · rw [if_pos c, List.countP_cons, c]
      simp
      omega
    · have c' : q a = false := by simpa using c
      rw [if_neg c, c']
      simp
      omega
theorem mem_of_countP {α : Type} {p : α → Bool} {l : List α} (h : 0 < l.countP p) : ∃ a ∈ l, p a = true := List.countP_pos_iff.1 h
variable {n : Nat} {es : List TEdge}
theorem deadL5 (hl : es.length ≤ 2000) (hR : InR n es) : ∀ (r i : Nat), i + r = es.length → ∀ m, r < m →
    m15_wait_Dead_L5 es m (i : Int) (tab n fun x => ((es.take i).countP (from_ x) : Int)) = m15_wait_Dead_K2 es (tab n fun x => (es.countP (from_ x) : Int)) := by
  intro r
  induction r with
  | zero =>
    intro i hi m hm
    obtain ⟨m, rfl⟩ := dec m hm
    rw [m15_wait_Dead_L5, m15_wait_Dead_L5B, if_neg (by omega), List.take_of_length_le (by omega)]
  | succ r ih =>
    intro i hi m hm
    obtain ⟨m, rfl⟩ := dec m (by omega)
    have h1 : i < es.length := by omega
    obtain ⟨g1, g2, g3, g4⟩ := hR es[i] (List.getElem_mem h1)
    have hc : (es.take i).countP (from_ es[i].From) ≤ (es.take i).length := List.countP_le_length
    rw [List.length_take] at hc
    rw [m15_wait_Dead_L5, m15_wait_Dead_L5B, if_pos (by omega), idx_ok h1, bind1_some, tab_idx g1 g2, bind1_some, i64_ok (by omega) (by omega), bind1_some, bind1_some, tab_upd _ g1 g2, bind1_some, isucc i (by omega), bind1_some, ← ih (i + 1) (by omega) m (by omega)]
    congr 1
    apply tab_ext
    intro x _ _
    rw [take_snoc h1, List.countP_append, List.countP_singleton]
    unfold from_
    by_cases c : x = es[i].From
    · rw [if_pos c, if_pos (decide_eq_true c.symm), c]; rfl
    · rw [if_neg c, if_neg (by simpa using Ne.symm c)]; rfl
/-- What is left when those of D are out. -/
def leftD (es : List TEdge) (D : Int → Bool) : List TEdge := es.filter fun e => !D e.To
def Wd (es : List TEdge) (D : Int → Bool) (x : Int) : Int := if D x = true then -1 else ((leftD es D).countP (from_ x) : Int)
structure Dinv (es : List TEdge) (D : Int → Bool) : Prop where
  cl : ∀ x, D x = true → ∀ y, Ed es x y → D y = true
  ac : ∀ x, D x = true → ¬ TC es x x
def nd (D : Int → Bool) (n : Nat) : Nat := wh (fun x => if D x = true then 1 else 0) n
def addD (D : Int → Bool) (k : Int) : Int → Bool := fun x => if x = k then true else D x
theorem leftD_mem {D : Int → Bool} {e : TEdge} : e ∈ leftD es D ↔ e ∈ es ∧ D e.To = false := by
  unfold leftD
  rw [List.mem_filter, Bool.not_eq_true']
theorem leftD_add (D : Int → Bool) (k : Int) : (leftD es D).filter (fun e => !decide (e.To = k)) = leftD es (addD D k) := by
  unfold leftD addD
  rw [List.filter_filter]
  congr 1
  funext e
  by_cases c : e.To = k
  · simp [c]
  · simp [c]
theorem Wd_add (D : Int → Bool) (h : Dinv es D) {k : Int} (hk : Wd es D k = 0) (x : Int) : (if x = k then (-1 : Int) else Wd es D x) - ((leftD es D).countP (both_ k x) : Int) = Wd es (addD D k) x := by
  have hkD : D k = false := by
    cases q : D k with
    | false => rfl
    | true => rw [Wd, q, if_pos rfl] at hk; omega
  have hk0 : (leftD es D).countP (from_ k) = 0 := by rw [Wd, hkD, if_neg ff] at hk; omega
  have hz : ∀ x, (leftD es D).countP (from_ x) = 0 → (leftD es D).countP (both_ k x) = 0 := fun x q => by
    rw [List.countP_eq_zero] at q ⊢
    intro e he c
    refine q e he ?_
    unfold both_ at c
    rw [Bool.and_eq_true] at c
    exact c.2
  by_cases c : x = k
  · rw [if_pos c, c, hz k hk0, Wd, addD, if_pos rfl, if_pos rfl]; rfl
  · rw [if_neg c, Wd, Wd]
    have e : addD D k x = D x := if_neg c
    rw [e]
    by_cases c2 : D x = true
    · have : (leftD es D).countP (from_ x) = 0 := by
        rw [List.countP_eq_zero]
        intro e he q
        obtain ⟨h1, h2⟩ := leftD_mem.1 he
        have h3 := h.cl x c2 e.To (by unfold from_ at q; rw [← of_decide_eq_true q]; exact h1)
        rw [h2] at h3
        cases h3
      rw [if_pos c2, if_pos c2, hz x this]
      rfl
    · rw [if_neg c2, if_neg c2, countP_split (from_ x) (fun e => !decide (e.To = k)) (leftD es D), leftD_add]
      have : (fun e : TEdge => (!(!decide (e.To = k)) && from_ x e)) = both_ k x := by
        funext e
        unfold both_ from_
        rw [Bool.not_not]
      rw [this]
      omega
theorem Dinv.add {D : Int → Bool} (h : Dinv es D) {k : Int} (hk : Wd es D k = 0) : Dinv es (addD D k) := by
  have hkD : D k = false := by
    cases q : D k with
    | false => rfl
    | true => rw [Wd, q, if_pos rfl] at hk; omega
  have hs : ∀ y, Ed es k y → D y = true := fun y hy => by
    cases q : D y with
    | true => rfl
    | false =>
      have h1 : 0 < (leftD es D).countP (from_ k) := List.countP_pos_iff.2 ⟨⟨k, y⟩, leftD_mem.2 ⟨hy, q⟩, by unfold from_; simp⟩
      rw [Wd, hkD, if_neg ff] at hk
      omega
  have hi : ∀ {y}, D y = true → addD D k y = true := fun {y} q => by unfold addD; split <;> first | rfl | exact q
  refine ⟨fun x hx y hy => ?_, fun x hx => ?_⟩
  · by_cases c : x = k
    · rw [c] at hy; exact hi (hs y hy)
    · exact hi (h.cl x (by rw [addD, if_neg c] at hx; exact hx) y hy)
  · by_cases c : x = k
    · rw [c]
      intro ht
      have : D k = true := by
        cases ht with
        | single h1 => exact hs k h1
        | tail h2 h1 =>
          have hb : ∀ y, TC es k y → D y = true := fun y hy => by
            induction hy with
            | single g => exact hs _ g
            | tail _ g ih => exact h.cl _ (ih) _ g
          exact h.cl _ (hb _ h2) _ h1
      rw [hkD] at this
      cases this
    · exact h.ac x (by rw [addD, if_neg c] at hx; exact hx)
theorem leftD_len (D : Int → Bool) : (leftD es D).length ≤ es.length := List.length_filter_le ..
/-- One node is out, and all edges to it. -/
theorem dropD (hl : es.length ≤ 2000) (hR : InR n es) (D : Int → Bool) (h : Dinv es D) {k : Int} (k0 : 0 ≤ k) (k1 : k < n) (hk : Wd es D k = 0) (go2 : List TEdge → List Int → Option (List Int × Int)) :
    m15_wait_Dead_K5 (tab n (Wd es D)) k (leftD es D) go2 = go2 (leftD es (addD D k)) (tab n (Wd es (addD D k))) := by
  have hll := leftD_len (es := es) D
  let S : Nat → List Int := fun j => tab n fun x => (if x = k then (-1 : Int) else Wd es D x) - (((leftD es D).take j).countP (both_ k x) : Int)
  have hS : ∀ j, S j = tab n fun x => (if x = k then (-1 : Int) else Wd es D x) - (((leftD es D).take j).countP (both_ k x) : Int) := fun _ => rfl
  have hb : ∀ x, -1 ≤ (if x = k then (-1 : Int) else Wd es D x) ∧ (if x = k then (-1 : Int) else Wd es D x) ≤ 2000 := fun x => by
    have : (leftD es D).countP (from_ x) ≤ (leftD es D).length := List.countP_le_length
    unfold Wd
    split
    · omega
    · split <;> omega
  have hc : ∀ j x, ((leftD es D).take j).countP (both_ k x) ≤ 2000 := fun j x => by
    have h1 : ((leftD es D).take j).countP (both_ k x) ≤ ((leftD es D).take j).length := List.countP_le_length
    rw [List.length_take] at h1
    omega
  have hrow : ∀ (j : Nat) (hj : j < (leftD es D).length), 0 ≤ (leftD es D)[j].From ∧ (leftD es D)[j].From < n := fun j hj => by
    obtain ⟨g1, g2, _, _⟩ := hR _ (leftD_mem.1 (List.getElem_mem hj)).1
    exact ⟨g1, g2⟩
  have hnx : ∀ (j : Nat) (hj : j < (leftD es D).length), (leftD es D)[j].To ≠ k → S (j + 1) = S j := fun j hj c => by
    rw [hS, hS]
    apply tab_ext
    intro x _ _
    rw [take_snoc hj, List.countP_append, List.countP_singleton]
    unfold both_
    simp [c]
  have hup : ∀ (j : Nat) (hj : j < (leftD es D).length), (leftD es D)[j].To = k → ∀ {ρ : Type} (f : List Int → Option ρ),
      (bind1 (idx (S j) (leftD es D)[j].From) fun x46 => bind1 (i64 (x46 - 1)) fun x47 => bind1 (idx (S j) (leftD es D)[j].From) fun x48 => bind1 (upd (S j) (leftD es D)[j].From x47) f) = f (S (j + 1)) := fun j hj c ρ f => by
    obtain ⟨g1, g2⟩ := hrow j hj
    have b1 := hb (leftD es D)[j].From
    have b2 := hc j (leftD es D)[j].From
    rw [hS, tab_idx g1 g2, bind1_some, i64_ok (by omega) (by omega), bind1_some, bind1_some, tab_upd _ g1 g2, bind1_some]
    congr 1
    rw [hS]
    apply tab_ext
    intro x _ _
    rw [take_snoc hj, List.countP_append, List.countP_singleton]
    by_cases c2 : x = (leftD es D)[j].From
    · have hq : both_ k (leftD es D)[j].From (leftD es D)[j] = true := by unfold both_; rw [decide_eq_true c]; simp
      rw [if_pos c2, c2, hq]
      simp only [if_true]
      omega
    · have hq : both_ k x (leftD es D)[j] = false := by unfold both_; rw [decide_eq_false (Ne.symm c2), Bool.and_false]
      rw [if_neg c2, hq]
      simp only [Bool.false_eq_true, if_false]
      omega
  have h0 : tab n (fun i => if i = k then (-1 : Int) else Wd es D i) = S 0 := by
    rw [hS]
    apply tab_ext
    intro x _ _
    simp
  have hend : S (leftD es D).length = tab n (Wd es (addD D k)) := by
    rw [hS]
    apply tab_ext
    intro x _ _
    rw [List.take_of_length_le (Nat.le_refl _)]
    exact Wd_add D h hk x
  rw [m15_wait_Dead_K5, tab_idx k0 k1, bind1_some, tab_upd _ k0 k1, bind1_some, h0,
    delS_all (F1 := m15_wait_Dead_L4 (leftD es D) k go2) (F := fun m l i j s => m15_wait_Dead_L3 k go2 m l i j s) (l0 := leftD es D) (keep := fun e => !decide (e.To = k)) (z := ⟨0, 0⟩) (S := S) (by omega) (fun l s => go2 l s) (fun m l i hl2 => ?_) (fun m l i j hj hj0 hl2 hlj => ?_) (fun m => ?_) (fun m i hi => ?_), hend, leftD_add]
  · rw [m15_wait_Dead_L3, m15_wait_Dead_L3B, if_neg (by omega), m15_wait_Dead_K9]
    rfl
  · have hup' := hup j hj0
    have hnx' := hnx j hj0
    rw [m15_wait_Dead_L3, m15_wait_Dead_L3B, if_pos (by omega), m15_wait_Dead_K10, idx_ok hj, bind1_some, hlj]
    generalize (leftD es D)[j] = e at hup' hnx' ⊢
    by_cases c : e.To = k
    · rw [if_pos c, hup' c, m15_wait_Dead_K12, m15_wait_Dead_K11, if_neg (by simp [c])]
      try rw [if_neg (by simp [c])]
    · rw [if_neg c, m15_wait_Dead_K12, m15_wait_Dead_K11, if_pos (by simp [c]), hnx' c]
      try rw [if_pos (by simp [c])]
  · rw [m15_wait_Dead_L4, m15_wait_Dead_L4B, if_neg (by omega), m15_wait_Dead_K13, m15_wait_Dead_K7, if_pos rfl, m15_wait_Dead_K6]
  · have hup' := hup i hi
    have hnx' := hnx i hi
    rw [m15_wait_Dead_L4, m15_wait_Dead_L4B, if_pos (by omega), idx_ok hi, bind1_some]
    generalize (leftD es D)[i] = e at hup' hnx' ⊢
    by_cases c : e.To = k
    · rw [if_pos c, hup' c, m15_wait_Dead_K15, m15_wait_Dead_K14, if_pos (by simp [c]), if_neg (by simp [c]), m15_wait_Dead_K7, if_neg (by omega), m15_wait_Dead_K8]
    · rw [if_neg c, m15_wait_Dead_K15, m15_wait_Dead_K14, if_neg (by simp [c]), if_pos (by simp [c]), hnx' c]
theorem fstI_none {P : Int → Bool} : ∀ (r i : Nat), fstI P i r = -1 → ∀ x : Int, (i : Int) ≤ x → x < i + r → P x = false
  | 0, i, _, x, h0, h1 => by omega
  | r + 1, i, h, x, h0, h1 => by
    rw [fstI] at h
    by_cases c : P (i : Int) = true
    · rw [if_pos c] at h; omega
    · rw [if_neg c] at h
      by_cases e : x = i
      · rw [e]; exact Bool.eq_false_iff.2 c
      · exact fstI_none r (i + 1) h x (by omega) (by omega)
theorem deadL2 (hn : n ≤ 60) (hl : es.length ≤ 2000) (hR : InR n es) : ∀ (u : Nat) (D : Int → Bool), Dinv es D → nd D n ≤ u → ∀ m, u < m →
    ∃ D', Dinv es D' ∧ (∀ x : Int, 0 ≤ x → x < n → Wd es D' x ≠ 0) ∧ m15_wait_Dead_L2 m (leftD es D) (tab n (Wd es D)) = m15_wait_Dead_K3 (tab n (Wd es D')) := by
  intro u
  induction u with
  | zero =>
    intro D h hu m hm
    obtain ⟨m, rfl⟩ := dec m hm
    have h1 := indexL n hn (Wd es D) n 0 (by omega) big (lt_big (by omega))
    rw [show ((0 : Nat) : Int) = 0 from rfl] at h1
    rw [m15_wait_Dead_L2, m15_wait_Dead_L2B, m21_slices_Index_int, h1, bind1_some]
    by_cases c : ∀ x : Int, 0 ≤ x → x < n → Wd es D x ≠ 0
    · refine ⟨D, h, c, ?_⟩
      rcases fstI_out (P := fun x => decide (Wd es D x = 0)) n 0 with h2 | ⟨h2, h3, h4⟩
      · rw [h2, if_pos (by omega)]
      · exact absurd (of_decide_eq_true h4) (c _ (by omega) (by omega))
    · exfalso
      refine c fun x x0 x1 hx => ?_
      have hxD : D x = false := by
        cases q : D x with
        | false => rfl
        | true => rw [Wd, q, if_pos rfl] at hx; omega
      have := wh_pos (W := fun x => if D x = true then 1 else 0) (k := x) (by rw [hxD]; rfl) x0 x1
      have hu' : wh (fun x => if D x = true then 1 else 0) n ≤ 0 := hu
      omega
  | succ u ih =>
    intro D h hu m hm
    obtain ⟨m, rfl⟩ := dec m (by omega)
    have h1 := indexL n hn (Wd es D) n 0 (by omega) big (lt_big (by omega))
    rw [show ((0 : Nat) : Int) = 0 from rfl] at h1
    rw [m15_wait_Dead_L2, m15_wait_Dead_L2B, m21_slices_Index_int, h1, bind1_some]
    rcases fstI_out (P := fun x => decide (Wd es D x = 0)) n 0 with h2 | ⟨h2, h3, h4⟩
    · refine ⟨D, h, ?_, by rw [h2, if_pos (by omega)]⟩
      intro x x0 x1 hx
      have := fstI_none n 0 h2 x (by omega) (by omega)
      simp only [hx, decide_true] at this
      cases this
    · generalize fstI (fun x => decide (Wd es D x = 0)) 0 n = k at h2 h3 h4
      have k0 : 0 ≤ k := by omega
      have k1 : k < n := by omega
      have hk : Wd es D k = 0 := of_decide_eq_true h4
      have hkD : D k = false := by
        cases q : D k with
        | false => rfl
        | true => rw [Wd, q, if_pos rfl] at hk; omega
      have hnd : nd D n = nd (addD D k) n + 1 := by
        have := wh_put (W := fun x => if D x = true then 1 else 0) (k := k) (v := 1) (by rw [hkD]; rfl) (by decide) k0 n
        rw [if_pos k1] at this
        have e : (fun i => if i = k then (1 : Int) else (fun x => if D x = true then 1 else 0) i) = fun x => if addD D k x = true then 1 else 0 := by
          funext i
          unfold addD
          by_cases c : i = k
          · rw [if_pos c, if_pos c, if_pos rfl]
          · rw [if_neg c, if_neg c]
        rw [e] at this
        exact this
      obtain ⟨D', g1, g2, g3⟩ := ih (addD D k) (h.add hk) (by omega) m (by omega)
      exact ⟨D', g1, g2, by rw [if_neg (by omega), dropD hl hR D h k0 k1 hk, g3]⟩
theorem deadL1 (hn : n ≤ 60) (I : Int → Int) : ∀ (r i : Nat), i + r = n → ∀ acc : List Int, acc.length ≤ i → ∀ m, r < m →
    m15_wait_Dead_L1 (tab n I) m acc (i : Int) = some (acc ++ selI (fun x => decide (0 < I x)) i r, 0) := by
  intro r
  induction r with
  | zero =>
    intro i hi acc ha m hm
    obtain ⟨m, rfl⟩ := dec m hm
    rw [m15_wait_Dead_L1, m15_wait_Dead_L1B, if_neg (by rw [tab_length]; omega), selI, List.append_nil, m15_wait_Dead_K4]
  | succ r ih =>
    intro i hi acc ha m hm
    obtain ⟨m, rfl⟩ := dec m (by omega)
    have i0 : (0 : Int) ≤ (i : Int) := by omega
    have i1 : (i : Int) < (n : Nat) := by omega
    rw [m15_wait_Dead_L1, m15_wait_Dead_L1B, if_pos (by rw [tab_length]; omega), tab_idx i0 i1, bind1_some, selI]
    by_cases c : 0 < I i
    · rw [if_pos c, if_pos (decide_eq_true c), app_ok (by simp only [List.length_cons, List.length_nil]; omega), bind1_some, isucc i (by omega), bind1_some, ih (i + 1) (by omega) _ (by simp only [List.length_append, List.length_cons, List.length_nil]; omega) m (by omega), List.append_assoc, List.singleton_append]
    · rw [if_neg c, if_neg (by simpa using c), isucc i (by omega), bind1_some, ih (i + 1) (by omega) acc (by omega) m (by omega)]

/-! ### Whoever is left comes to a loop -/
def cb (P : Int → Bool) (n : Nat) : Nat := wh (fun x => if P x = true then 0 else 1) n
theorem wh_mono {W W' : Int → Int} (h : ∀ x, W x = 0 → W' x = 0) : ∀ n, wh W n ≤ wh W' n
  | 0 => Nat.le_refl _
  | n + 1 => by
    have := wh_mono h n
    rw [wh, wh]
    by_cases c : W (n : Int) = 0
    · rw [if_pos c, if_pos (h _ c)]; omega
    · rw [if_neg c]; omega
theorem cb_lt {P Q : Int → Bool} (h : ∀ x, P x = true → Q x = true) {w : Int} (hp : P w = false) (hq : Q w = true) (w0 : 0 ≤ w) {n : Nat} (w1 : w < n) : cb P n < cb Q n := by
  have h1 := wh_put (W := fun x => if Q x = true then 0 else 1) (k := w) (v := 1) (by rw [hq]; rfl) (by decide) w0 n
  rw [if_pos w1] at h1
  have h2 : wh (fun x => if P x = true then 0 else 1) n ≤ wh (fun i => if i = w then (1 : Int) else if Q i = true then 0 else 1) n := wh_mono (fun x hx => by
    by_cases c : P x = true
    · rw [if_neg (fun e => by rw [e, hp] at c; cases c)]
      show (if Q x = true then (0 : Int) else 1) = 0
      rw [if_pos (h x c)]
    · rw [if_neg c] at hx; cases hx) n
  unfold cb
  omega
def onLoop (n : Nat) (C : Int → Int → Bool) (x : Int) : Prop := C x x = true ∨ ∃ i : Int, 0 ≤ i ∧ i < n ∧ C x i = true ∧ C i i = true
theorem comes (hR : InR n es) (C : Int → Int → Bool) (hC : ∀ i j, C i j = true ↔ TC es i j) {A : Int → Prop} (hA : ∀ x, A x → ∃ y, A y ∧ Ed es x y) : ∀ (u : Nat) (x : Int), A x → cb (C x) n ≤ u → onLoop n C x := by
  intro u
  induction u with
  | zero =>
    intro x hx hu
    obtain ⟨y, hy, he⟩ := hA x hx
    obtain ⟨_, _, y0, y1⟩ := hR _ he
    by_cases c : C y y = true
    · exact .inr ⟨y, y0, y1, (hC x y).2 (.single he), c⟩
    · have := cb_lt (P := C y) (Q := C x) (fun z hz => (hC x z).2 (TC.trans (.single he) ((hC y z).1 hz))) (by simpa using c) ((hC x y).2 (.single he)) y0 y1
      omega
  | succ u ih =>
    intro x hx hu
    obtain ⟨y, hy, he⟩ := hA x hx
    obtain ⟨_, _, y0, y1⟩ := hR _ he
    have hxy := (hC x y).2 (.single he)
    by_cases c : C y y = true
    · exact .inr ⟨y, y0, y1, hxy, c⟩
    · have := cb_lt (P := C y) (Q := C x) (fun z hz => (hC x z).2 (TC.trans (.single he) ((hC y z).1 hz))) (by simpa using c) hxy y0 y1
      rcases ih y hy (by omega) with h | ⟨i, i0, i1, h1, h2⟩
      · exact absurd h c
      · exact .inr ⟨i, i0, i1, (hC x i).2 (TC.trans (.single he) ((hC y i).1 h1)), h2⟩
def anyI (P : Int → Bool) : Nat → Nat → Bool
  | _, 0 => false
  | i, r + 1 => P (i : Int) || anyI P (i + 1) r
theorem anyI_iff {P : Int → Bool} : ∀ (r i : Nat), anyI P i r = true ↔ ∃ k : Int, (i : Int) ≤ k ∧ k < i + r ∧ P k = true
  | 0, i => by
    simp only [anyI, Bool.false_eq_true, false_iff]
    rintro ⟨k, h1, h2, _⟩
    omega
  | r + 1, i => by
    rw [anyI, Bool.or_eq_true, anyI_iff r (i + 1)]
    constructor
    · rintro (h | ⟨k, h1, h2, h3⟩)
      · exact ⟨i, by omega, by omega, h⟩
      · exact ⟨k, by omega, by omega, h3⟩
    · rintro ⟨k, h1, h2, h3⟩
      by_cases c : k = i
      · rw [c] at h3; exact .inl h3
      · exact .inr ⟨k, by omega, by omega, h3⟩
def isD (n : Nat) (C : Int → Int → Bool) (k : Int) : Bool := C k k || anyI (fun i => C k i && C i i) 0 n
theorem isD_iff {C : Int → Int → Bool} {k : Int} : isD n C k = true ↔ onLoop n C k := by
  unfold isD onLoop
  rw [Bool.or_eq_true, anyI_iff]
  constructor
  · rintro (h | ⟨i, h1, h2, h3⟩)
    · exact .inl h
    · rw [Bool.and_eq_true] at h3
      exact .inr ⟨i, by omega, by omega, h3⟩
  · rintro (h | ⟨i, h1, h2, h3⟩)
    · exact .inl h
    · exact .inr ⟨i, by omega, by omega, by rw [Bool.and_eq_true]; exact h3⟩
theorem dead_eq (hn : n ≤ 60) (hl : es.length ≤ 2000) (hR : InR n es) (C : Int → Int → Bool) (hC : ∀ i j, C i j = true ↔ TC es i j) : m15_wait_Dead (n : Int) es = some (selI (isD n C) 0 n, 0) := by
  obtain ⟨D, h1, h2, h3⟩ := deadL2 hn hl hR n (fun _ => false) ⟨fun x h => (by cases h), fun x h => (by cases h)⟩ (wh_le _ _) big (lt_big (by omega))
  have e0 : leftD es (fun _ => false) = es := List.filter_eq_self.2 fun _ _ => rfl
  have e1 : Wd es (fun _ => false) = fun x => (es.countP (from_ x) : Int) := by
    funext x
    rw [Wd, if_neg ff, e0]
  rw [e0, e1] at h3
  have h5 := deadL5 (n := n) hl hR es.length 0 (by omega) big (lt_big (by omega))
  rw [show ((0 : Nat) : Int) = 0 from rfl] at h5
  have e2 : (tab n fun x => ((es.take 0).countP (from_ x) : Int)) = tab n fun _ => 0 := tab_ext fun x _ _ => by simp
  rw [e2] at h5
  have hcl : m26_api_Edge es = some es := by
    rw [m26_api_Edge, app_ok (by simp only [List.length_nil]; omega), bind1_some, List.nil_append]
  have h6 := deadL1 hn (Wd es D) n 0 (by omega) [] (by simp) big (lt_big (by omega))
  rw [List.nil_append, show ((0 : Nat) : Int) = 0 from rfl] at h6
  rw [m15_wait_Dead, gcheck n hn es hl hR, bind1_some, if_neg (by simp), m15_wait_Dead_K1, mk_ok _ (by omega), bind1_some, tab_repl, h5, m15_wait_Dead_K2, hcl, bind1_some, h3, m15_wait_Dead_K3, h6]
  congr 2
  refine selI_ext n 0 fun x x0 x1 => ?_
  have x0' : 0 ≤ x := by omega
  have x1' : x < n := by omega
  have key : 0 < Wd es D x ↔ isD n C x = true := by
    rw [isD_iff]
    constructor
    · intro hx
      refine comes hR C hC (A := fun y => 0 ≤ y ∧ y < n ∧ D y = false) (fun y ⟨y0, y1, hy⟩ => ?_) n x ⟨x0', x1', ?_⟩ (wh_le _ _)
      · have := h2 y y0 y1
        rw [Wd, hy, if_neg ff] at this
        obtain ⟨e, he, hq⟩ := mem_of_countP (p := from_ y) (l := leftD es D) (by omega)
        obtain ⟨q1, q2⟩ := leftD_mem.1 he
        obtain ⟨_, _, g3, g4⟩ := hR e q1
        refine ⟨e.To, ⟨g3, g4, q2⟩, ?_⟩
        have q3 : e.From = y := of_decide_eq_true hq
        rw [← q3]
        exact q1
      · cases q : D x with
        | false => rfl
        | true => rw [Wd, q, if_pos rfl] at hx; omega
    · intro hx
      have hDx : D x = false := by
        cases q : D x with
        | false => rfl
        | true =>
          rcases hx with g | ⟨i, _, _, g1, g2⟩
          · exact absurd ((hC x x).1 g) (h1.ac x q)
          · exact absurd ((hC i i).1 g2) (h1.ac i (tc_closed (A := fun y => D y = true) (fun y hy z hz => h1.cl y hy z hz) q ((hC x i).1 g1)))
      have := h2 x x0' x1'
      rw [Wd, hDx, if_neg ff] at this ⊢
      omega
  by_cases c : isD n C x = true
  · rw [c]; exact decide_eq_true (key.2 c)
  · rw [Bool.eq_false_iff.2 c]; exact decide_eq_false fun q => c (key.1 q)

/-! ### The document's -/
theorem rdeadL3 (hn : n ≤ 60) (gl4 : List Int) (k : Int) (go1 : List Int → Int → Option (List Int)) : ∀ (r i : Nat), i + r = n → ∀ m, r < m → m18_quirref_Dead_L3 (n : Int) gl4 k go1 m (i : Int) = m18_quirref_Dead_K6 gl4 k go1 := by
  intro r
  induction r with
  | zero =>
    intro i hi m hm
    obtain ⟨m, rfl⟩ := dec m hm
    rw [m18_quirref_Dead_L3, m18_quirref_Dead_L3B, if_neg (by omega)]
  | succ r ih =>
    intro i hi m hm
    obtain ⟨m, rfl⟩ := dec m (by omega)
    rw [m18_quirref_Dead_L3, m18_quirref_Dead_L3B, if_pos (by omega), isucc i (by omega), bind1_some, ih (i + 1) (by omega) m (by omega)]
theorem rdeadL2 (hn : n ≤ 60) (C : Int → Int → Bool) (k : Nat) (hk : k < n) (gl4 : List Int) (go1 : List Int → Int → Option (List Int)) : ∀ (r i : Nat), i + r = n → ∀ (b : Bool) m, r < m →
    m18_quirref_Dead_L2 (n : Int) (tt n C) (k : Int) gl4 go1 m b (i : Int) = m18_quirref_Dead_K4 gl4 (k : Int) go1 (b || anyI (fun i => C k i && C i i) i r) := by
  intro r
  induction r with
  | zero =>
    intro i hi b m hm
    obtain ⟨m, rfl⟩ := dec m hm
    rw [m18_quirref_Dead_L2, m18_quirref_Dead_L2B, if_neg (by omega), anyI, Bool.or_false]
  | succ r ih =>
    intro i hi b m hm
    obtain ⟨m, rfl⟩ := dec m (by omega)
    have i0 : (0 : Int) ≤ (i : Int) := by omega
    have i1 : (i : Int) < (n : Nat) := by omega
    have k0 : (0 : Int) ≤ (k : Int) := by omega
    have k1 : (k : Int) < (n : Nat) := by omega
    have nx : ∀ c : Bool, m18_quirref_Dead_K5 (i : Int) (m18_quirref_Dead_L2 (n : Int) (tt n C) (k : Int) gl4 go1 m) c = m18_quirref_Dead_K4 gl4 (k : Int) go1 (c || anyI (fun i => C k i && C i i) (i + 1) r) := by
      intro c
      rw [m18_quirref_Dead_K5]
      cases c with
      | true => rw [if_pos rfl, isucc i (by omega), bind1_some, ih (i + 1) (by omega) true m (by omega)]
      | false => rw [if_neg ff, isucc i (by omega), bind1_some, ih (i + 1) (by omega) false m (by omega)]
    rw [m18_quirref_Dead_L2, m18_quirref_Dead_L2B, if_pos i1, anyI]
    cases b with
    | true => rw [if_pos rfl, nx, Bool.true_or, Bool.true_or]
    | false =>
      rw [if_neg ff, tt_idx k0 k1, bind1_some, tab_idx i0 i1, bind1_some]
      by_cases c1 : C k i = true
      · rw [if_pos c1, tt_idx i0 i1, bind1_some, tab_idx i0 i1, bind1_some]
        by_cases c2 : C i i = true
        · rw [if_pos c2, nx, c1, c2]; rfl
        · rw [if_neg c2, nx, c1, Bool.eq_false_iff.2 c2]; rfl
      · rw [if_neg c1, nx, Bool.eq_false_iff.2 c1]; rfl
theorem rdeadL1 (hn : n ≤ 60) (C : Int → Int → Bool) : ∀ (r k : Nat), k + r = n → ∀ acc : List Int, acc.length ≤ k → ∀ m, r < m →
    m18_quirref_Dead_L1 (n : Int) (tt n C) m acc (k : Int) = some (acc ++ selI (isD n C) k r) := by
  intro r
  induction r with
  | zero =>
    intro k hk acc ha m hm
    obtain ⟨m, rfl⟩ := dec m hm
    rw [m18_quirref_Dead_L1, m18_quirref_Dead_L1B, if_neg (by omega), selI, List.append_nil, m18_quirref_Dead_K1]
  | succ r ih =>
    intro k hk acc ha m hm
    obtain ⟨m, rfl⟩ := dec m (by omega)
    have k0 : (0 : Int) ≤ (k : Int) := by omega
    have k1 : (k : Int) < (n : Nat) := by omega
    have yes : isD n C k = true → bind1 (app acc [(k : Int)]) (fun l => m18_quirref_Dead_K2 (k : Int) (m18_quirref_Dead_L1 (n : Int) (tt n C) m) l) = some (acc ++ selI (isD n C) k (r + 1)) := by
      intro c
      rw [app_ok (by simp only [List.length_cons, List.length_nil]; omega), bind1_some, m18_quirref_Dead_K2, isucc k (by omega), bind1_some, ih (k + 1) (by omega) _ (by simp only [List.length_append, List.length_cons, List.length_nil]; omega) m (by omega), selI, if_pos c, List.append_assoc, List.singleton_append]
    have no : isD n C k = false → m18_quirref_Dead_K2 (k : Int) (m18_quirref_Dead_L1 (n : Int) (tt n C) m) acc = some (acc ++ selI (isD n C) k (r + 1)) := by
      intro c
      rw [m18_quirref_Dead_K2, isucc k (by omega), bind1_some, ih (k + 1) (by omega) acc (by omega) m (by omega), selI, if_neg (by rw [c]; exact ff)]
    have h3 := rdeadL3 hn acc (k : Int) (m18_quirref_Dead_L1 (n : Int) (tt n C) m) n 0 (by omega) big (lt_big (by omega))
    have h2 := rdeadL2 hn C k (by omega) acc (m18_quirref_Dead_L1 (n : Int) (tt n C) m) n 0 (by omega) false big (lt_big (by omega))
    rw [show ((0 : Nat) : Int) = 0 from rfl] at h2 h3
    rw [m18_quirref_Dead_L1, m18_quirref_Dead_L1B, if_pos k1, tt_idx k0 k1, bind1_some, tab_idx k0 k1, bind1_some]
    by_cases c : C k k = true
    · rw [if_pos c, m18_quirref_Dead_K3, if_pos rfl, h3, m18_quirref_Dead_K6]
      exact yes (by rw [isD, c, Bool.true_or])
    · have e : isD n C k = anyI (fun i => C k i && C i i) 0 n := by rw [isD, Bool.eq_false_iff.2 c, Bool.false_or]
      rw [if_neg c, m18_quirref_Dead_K3, if_neg ff, h2, m18_quirref_Dead_K4, Bool.false_or, ← e]
      by_cases c2 : isD n C k = true
      · rw [if_pos c2]; exact yes c2
      · rw [if_neg c2]; exact no (Bool.eq_false_iff.2 c2)
theorem rdead_eq (hn : n ≤ 60) (C : Int → Int → Bool) (hC : m14_quirref_Closure (n : Int) es = some (tt n C)) : m18_quirref_Dead (n : Int) es = some (selI (isD n C) 0 n) := by
  have := rdeadL1 hn C n 0 (by omega) [] (by simp) big (lt_big (by omega))
  rw [List.nil_append, show ((0 : Nat) : Int) = 0 from rfl] at this
  rw [m18_quirref_Dead, hC, bind1_some, this]
end Go.Proofs.Ytjhcdmcikodgkaa
