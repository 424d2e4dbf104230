/-
  Runs that are alike: run.Like and the document's Like.
  Conditions: none.
-/
import Derived.Test.YtglbgeamiobldaaRlP
namespace Go.Proofs.Ytglbgeamiobldaa
open Go.S Go.Sort
set_option linter.unusedVariables false
set_option linter.unusedSimpArgs false
theorem mk_ok {α : Type} {n : Nat} (z : α) (h : n ≤ 1000000) : mk (n : Int) z = some (List.replicate n z) := by
  unfold mk
  rw [if_pos ⟨by omega, by omega⟩, Int.toNat_natCast]
/-! ### What slices.DeleteFunc leaves -/
section
variable {α ρ σ : Type} {keep : α → Bool} {l0 : List α} {z : α} {S : Nat → σ}
theorem delS_loop {F : Nat → List α → Int → Int → σ → Option ρ} (hl : l0.length ≤ 1000000) (K : List α → σ → Option ρ)
    (hend : ∀ n (l : List α) (i : Nat), l.length = l0.length → F (n + 1) l (i : Nat) (l.length : Nat) (S l0.length) = bind1 (cut l (i : Nat) l.length) fun _ => bind1 (clr l (i : Nat) z) fun l59 => bind1 (cut l59 0 (i : Nat)) fun l60 => K l60 (S l0.length))
    (hstep : ∀ n (l : List α) (i j : Nat) (h : j < l.length) (h0 : j < l0.length), l.length = l0.length → l[j] = l0[j] → F (n + 1) l (i : Nat) (j : Nat) (S j) = if keep l0[j] = true then bind1 (idx l (i : Nat)) fun _ => bind1 (upd l (i : Nat) l0[j]) fun l67 => bind1 (i64 ((i : Nat) + 1)) fun x68 => bind1 (i64 ((j : Nat) + 1)) fun x69 => F n l67 x68 x69 (S (j + 1)) else bind1 (i64 ((j : Nat) + 1)) fun x70 => F n l (i : Nat) x70 (S (j + 1))) :
    ∀ (r j : Nat), j + r = l0.length → ∀ (l : List α) (i : Nat) (n : Nat), r < n → i < j → l.length = l0.length → l.take i = (l0.take j).filter keep → l.drop j = l0.drop j → F n l (i : Nat) (j : Nat) (S j) = K (l0.filter keep) (S l0.length) := by
  intro r
  induction r with
  | zero =>
    intro j hj l i n hn hij hll ht hd
    obtain ⟨n, rfl⟩ := dec n hn
    have e : j = l.length := by omega
    subst e
    have e1 : l0.take l.length = l0 := List.take_of_length_le (by omega)
    rw [e1] at ht
    have e2 : (l.take i ++ List.replicate (l.length - i) z).take i = l.take i := List.take_left' (by rw [List.length_take]; omega)
    have e3 := hend n l i hll
    rw [← hll] at e3
    rw [e3, cut_drop _ _ (by omega), bind1_some, clr_ok _ _ _ (by omega), bind1_some, cut_take _ _ (by rw [List.length_append, List.length_take, List.length_replicate]; omega), bind1_some, e2, ht, hll]
  | succ r ih =>
    intro j hj l i n hn hij hll ht hd
    obtain ⟨n, rfl⟩ := dec n (by omega)
    have h1 : j < l.length := by omega
    have h2 : j < l0.length := by omega
    have e1 : l[j] = l0[j] := by
      have h3 := congrArg List.head? hd
      rw [drop_cons h1, drop_cons h2] at h3
      exact Option.some.inj h3
    have e2 : l.drop (j + 1) = l0.drop (j + 1) := by
      have h3 := congrArg List.tail hd
      rw [drop_cons h1, drop_cons h2] at h3
      exact h3
    rw [hstep n l i j h1 h2 hll e1]
    by_cases c : keep l0[j] = true
    · rw [if_pos c, idx_ok (by omega), bind1_some, upd_ok _ (by omega), bind1_some, isucc i (by omega), bind1_some, isucc j (by omega), bind1_some]
      refine ih (j + 1) (by omega) _ (i + 1) n (by omega) (by omega) (by simpa using hll) ?_ ?_
      · rw [take_snoc (by simp; omega), List.getElem_set_self, List.take_set_of_le (Nat.le_refl _), ht, take_snoc h2, List.filter_append]
        simp [c]
      · rw [List.drop_set_of_lt (by omega), e2]
    · rw [if_neg c, isucc j (by omega), bind1_some]
      refine ih (j + 1) (by omega) l i n (by omega) (by omega) hll ?_ e2
      rw [ht, take_snoc h2, List.filter_append]
      simp [c]
theorem delS_all {F1 : Nat → Int → σ → Option ρ} {F : Nat → List α → Int → Int → σ → Option ρ} (hl : l0.length ≤ 1000000) (K : List α → σ → Option ρ)
    (hend : ∀ n (l : List α) (i : Nat), l.length = l0.length → F (n + 1) l (i : Nat) (l.length : Nat) (S l0.length) = bind1 (cut l (i : Nat) l.length) fun _ => bind1 (clr l (i : Nat) z) fun l59 => bind1 (cut l59 0 (i : Nat)) fun l60 => K l60 (S l0.length))
    (hstep : ∀ n (l : List α) (i j : Nat) (h : j < l.length) (h0 : j < l0.length), l.length = l0.length → l[j] = l0[j] → F (n + 1) l (i : Nat) (j : Nat) (S j) = if keep l0[j] = true then bind1 (idx l (i : Nat)) fun _ => bind1 (upd l (i : Nat) l0[j]) fun l67 => bind1 (i64 ((i : Nat) + 1)) fun x68 => bind1 (i64 ((j : Nat) + 1)) fun x69 => F n l67 x68 x69 (S (j + 1)) else bind1 (i64 ((j : Nat) + 1)) fun x70 => F n l (i : Nat) x70 (S (j + 1)))
    (hend1 : ∀ n, F1 (n + 1) (l0.length : Nat) (S l0.length) = K l0 (S l0.length))
    (hstep1 : ∀ n i (h : i < l0.length), F1 (n + 1) (i : Nat) (S i) = if keep l0[i] = true then bind1 (i64 ((i : Nat) + 1)) fun x => F1 n x (S (i + 1)) else bind1 (i64 ((i : Nat) + 1)) fun x => F big l0 (i : Nat) x (S (i + 1))) : F1 big 0 (S 0) = K (l0.filter keep) (S l0.length) := by
  have key : ∀ (r i : Nat), i + r = l0.length → (∀ q (h : q < l0.length), q < i → keep l0[q] = true) → ∀ n, r < n → F1 n (i : Nat) (S i) = K (l0.filter keep) (S l0.length) := by
    intro r
    induction r with
    | zero =>
      intro i hi hk n hn
      obtain ⟨n, rfl⟩ := dec n hn
      obtain rfl : i = l0.length := by omega
      rw [hend1, List.filter_eq_self.2]
      intro x hx
      obtain ⟨q, hq, rfl⟩ := List.getElem_of_mem hx
      exact hk q hq hq
    | succ r ih =>
      intro i hi hk n hn
      obtain ⟨n, rfl⟩ := dec n (by omega)
      have h1 : i < l0.length := by omega
      rw [hstep1 n i h1]
      by_cases c : keep l0[i] = true
      · rw [if_pos c, isucc i (by omega), bind1_some]
        refine ih (i + 1) (by omega) (fun q hq hqi => ?_) n (by omega)
        by_cases c2 : q = i
        · subst c2; exact c
        · exact hk q hq (by omega)
      · rw [if_neg c, isucc i (by omega), bind1_some]
        refine delS_loop hl K hend hstep (l0.length - (i + 1)) (i + 1) (by omega) l0 i big (lt_big (by omega)) (by omega) rfl ?_ rfl
        rw [take_snoc h1, List.filter_append, List.filter_eq_self.2]
        · simp [c]
        · intro x hx
          obtain ⟨q, hq, rfl⟩ := List.getElem_of_mem hx
          rw [List.getElem_take]
          rw [List.length_take] at hq
          exact hk q (by omega) (by omega)
  exact key l0.length 0 (by omega) (fun q h h2 => absurd h2 (by omega)) big (lt_big (by omega))
end
theorem cntT_le (p : List TOp) (t : Int) : 0 ≤ cntT p t ∧ cntT p t ≤ p.length := by
  have := own_le p t
  unfold cntT
  omega
theorem whA_le (l : List TOp) (i : Nat) : 0 ≤ whA l i ∧ whA l i ≤ i := by
  have := cntT_le (l.take i) (txA l i)
  rw [List.length_take] at this
  unfold whA
  omega
/-! ### The pairs of a run -/
def whI (l : List TOp) (x : Int) : Int := whA l x.toNat
theorem atL (l : List TOp) (hg : Good l) : ∀ (r i : Nat), i + r = l.length → ∀ m, r < m →
    m16_run_pairs_L3 l m (tab l.length fun x => if x < i then whI l x else 0) (i : Int) (tab 12 (cntT (l.take i))) = m16_run_pairs_K1 l (tab l.length (whI l)) := by
  have hl := hg.len
  intro r
  induction r with
  | zero =>
    intro i hi m hm
    obtain ⟨m, rfl⟩ := dec m hm
    rw [m16_run_pairs_L3, m16_run_pairs_L3B, if_neg (by omega)]
    congr 1
    exact tab_ext fun x _ h => by rw [if_pos (by omega)]
  | succ r ih =>
    intro i hi m hm
    obtain ⟨m, rfl⟩ := dec m (by omega)
    have h1 : i < l.length := by omega
    have hf := hg.fine i h1
    have i0 : (0 : Int) ≤ (i : Int) := by omega
    have i1 : (i : Int) < (l.length : Nat) := by omega
    have t0 := hf.t0
    have t1 := hf.t1
    have hc := cntT_le (l.take i) l[i].Tx
    rw [List.length_take] at hc
    have hw : whI l (i : Int) = cntT (l.take i) l[i].Tx := by
      show whA l (i : Int).toNat = _
      rw [Int.toNat_natCast, whA, txA_at h1]
    rw [m16_run_pairs_L3, m16_run_pairs_L3B, if_pos (by omega), idx_ok h1, bind1_some, tab_idxA t0 t1, bind1_some, tab_idx i0 i1, bind1_some, tab_upd _ i0 i1, bind1_some, bind1_some, i64_ok (by omega) (by omega), bind1_some, bind1_some, tab_upd _ t0 t1, bind1_some, isucc i (by omega), bind1_some, ← ih (i + 1) (by omega) m (by omega)]
    congr 1
    · apply tab_ext
      intro x _ _
      by_cases c : x = i
      · rw [if_pos c, if_pos (by omega), c, hw]
      · rw [if_neg c]
        by_cases c2 : x < i
        · rw [if_pos c2, if_pos (by omega)]
        · rw [if_neg c2, if_neg (by omega)]
    · apply tab_ext
      intro x _ _
      rw [take_snoc h1, cntT_snoc]
      by_cases c : x = l[i].Tx
      · rw [if_pos c, if_pos c.symm, c]
      · rw [if_neg c, if_neg (Ne.symm c), Int.add_zero]
theorem prL2 (l : List TOp) (hl : l.length ≤ 200) {i : Nat} (hi : i < l.length) (go1 : List Tpair → Int → Option (List Tpair)) : ∀ (r k : Nat), k + r = l.length → ∀ acc : List Tpair, acc.length + r ≤ 1000000 → ∀ m, r < m →
    m16_run_pairs_L2 l l[i] (tab l.length (whI l)) (i : Int) go1 m acc (k : Int) = m16_run_pairs_K3 (i : Int) go1 (acc ++ rowL l i k r) := by
  intro r
  induction r with
  | zero =>
    intro k hk acc ha m hm
    obtain ⟨m, rfl⟩ := dec m hm
    rw [m16_run_pairs_L2, m16_run_pairs_L2B, if_neg (by omega), rowL, List.append_nil]
  | succ r ih =>
    intro k hk acc ha m hm
    obtain ⟨m, rfl⟩ := dec m (by omega)
    have h1 : k < l.length := by omega
    have i0 : (0 : Int) ≤ (i : Int) := by omega
    have i1 : (i : Int) < (l.length : Nat) := by omega
    have k0 : (0 : Int) ≤ (k : Int) := by omega
    have k1 : (k : Int) < (l.length : Nat) := by omega
    have hp : (⟨l[i].Tx, whI l (i : Int), l[k].Tx, whI l (k : Int)⟩ : Tpair) = prA l i k := by
      rw [prA, txA_at hi, txA_at h1]; rfl
    rw [m16_run_pairs_L2, m16_run_pairs_L2B, if_pos (by omega), m16_run_pairs_K4, idx_ok h1, bind1_some, clash1, bind1_some, rowL, clA_at hi h1]
    by_cases c : cl l[i] l[k] = true
    · rw [if_pos c, if_pos c, tab_idx i0 i1, bind1_some, bind1_some, tab_idx k0 k1, bind1_some, app_ok (by simp only [List.length_cons, List.length_nil]; omega), bind1_some, isucc k (by omega), bind1_some, ih (k + 1) (by omega) _ (by simp only [List.length_append, List.length_cons, List.length_nil]; omega) m (by omega), hp, List.append_assoc, List.singleton_append]
    · rw [if_neg c, if_neg c, isucc k (by omega), bind1_some, ih (k + 1) (by omega) acc (by omega) m (by omega)]
theorem prL1 (l : List TOp) (hl : l.length ≤ 200) : ∀ (r i : Nat), i + r = l.length → ∀ acc : List Tpair, acc.length + 200 * r ≤ 900000 → ∀ m, r < m →
    m16_run_pairs_L1 l (tab l.length (whI l)) m acc (i : Int) = m16_run_pairs_K2 (acc ++ allL l i r) := by
  intro r
  induction r with
  | zero =>
    intro i hi acc ha m hm
    obtain ⟨m, rfl⟩ := dec m hm
    rw [m16_run_pairs_L1, m16_run_pairs_L1B, if_neg (by omega), allL, List.append_nil]
  | succ r ih =>
    intro i hi acc ha m hm
    obtain ⟨m, rfl⟩ := dec m (by omega)
    have h1 : i < l.length := by omega
    have hr := rowL_len (l := l) (i := i) r (i + 1)
    rw [m16_run_pairs_L1, m16_run_pairs_L1B, if_pos (by omega), idx_ok h1, bind1_some, isucc i (by omega), bind1_some, prL2 l hl h1 _ r (i + 1) (by omega) acc (by omega) big (lt_big (by omega)), m16_run_pairs_K3, isucc i (by omega), bind1_some, ih (i + 1) (by omega) _ (by rw [List.length_append]; omega) m (by omega), allL, List.append_assoc]
theorem pairsL_len {l : List TOp} (hl : l.length ≤ 200) : (pairsL l).length ≤ 40000 := by
  have := allL_len (l := l) 200 l.length 0 hl
  unfold pairsL
  omega
theorem pairs_eq (l : List TOp) (hg : Good l) : m16_run_pairs l = some (srtF cfP (pairsL l)) := by
  have hl := hg.len
  have h3 := atL l hg l.length 0 (by omega) big (lt_big (by omega))
  have e1 : (tab l.length fun x : Int => if x < ((0 : Nat) : Int) then whI l x else 0) = List.replicate l.length 0 := by
    rw [tab_repl]; exact tab_ext fun x h0 _ => by rw [if_neg (by omega)]
  have e2 : tab 12 (cntT (l.take 0)) = List.replicate 12 0 := by
    rw [tab_repl]; exact tab_ext fun x _ _ => rfl
  rw [e1, e2, show ((0 : Nat) : Int) = 0 from rfl] at h3
  have h1 := prL1 l hl l.length 0 (by omega) [] (by simp only [List.length_nil]; omega) big (lt_big (by omega))
  rw [List.nil_append, show ((0 : Nat) : Int) = 0 from rfl] at h1
  have hp := pairsL_len hl
  have hx : xSortF (fun x y => (m30_run_pairs_1 x y).getD 0) (pairsL l) = some (srtF cfP (pairsL l)) := by
    rw [cf30]; exact if_pos (by omega)
  rw [m16_run_pairs, mk_ok _ (by omega), bind1_some, h3, m16_run_pairs_K1, h1, m16_run_pairs_K2]
  rw [show allL l 0 l.length = pairsL l from rfl, hx, bind1_some]

/-! ### Like -/
def sameO (a b : List TOp) : Nat → Nat → Bool
  | _, 0 => true
  | t, r + 1 => decide (own a t = own b t) && sameO a b (t + 1) r
theorem sameO_iff {a b : List TOp} : ∀ (r t : Nat), sameO a b t r = true ↔ ∀ x : Int, (t : Int) ≤ x → x < t + r → own a x = own b x
  | 0, t => by simp only [sameO, true_iff]; intro x h1 h2; omega
  | r + 1, t => by
    rw [sameO, Bool.and_eq_true, decide_eq_true_eq, sameO_iff r (t + 1)]
    constructor
    · rintro ⟨h1, h2⟩ x h3 h4
      by_cases c : x = t
      · rw [c]; exact h1
      · exact h2 x (by omega) (by omega)
    · exact fun h => ⟨h t (by omega) (by omega), fun x h3 h4 => h x (by omega) (by omega)⟩
theorem clone_eq (a : List TOp) (hl : a.length ≤ 200) : m14_api_Op a = some a := by
  rw [m14_api_Op, app_ok (by simp only [List.length_nil]; omega), bind1_some, List.nil_append]
theorem likeDelB (b : List TOp) (hl : b.length ≤ 200) (t : Int) (o : List TOp) (go1 : Int → Option (Bool × Int)) : m6_run_Like_L3 b t o go1 big 0 = m6_run_Like_K5 o t go1 (own b t) := by
  refine delS_all (F1 := fun m i (_ : Unit) => m6_run_Like_L3 b t o go1 m i) (F := fun m l i j _ => m6_run_Like_L2 t o go1 m l i j) (l0 := b) (keep := fun e => decide (e.Tx = t)) (z := ⟨0, 0, 0⟩) (S := fun _ => ()) (by omega) (fun l _ => m6_run_Like_K5 o t go1 l) (fun m l i hl2 => ?_) (fun m l i j hj hj0 hl2 hlj => ?_) (fun m => ?_) (fun m i hi => ?_)
  · show m6_run_Like_L2 t o go1 (m + 1) l (i : Int) (l.length : Int) = _
    rw [m6_run_Like_L2, m6_run_Like_L2B, if_neg (by omega), m6_run_Like_K8]
  · show m6_run_Like_L2 t o go1 (m + 1) l (i : Int) (j : Int) = _
    rw [m6_run_Like_L2, m6_run_Like_L2B, if_pos (by omega), m6_run_Like_K9, idx_ok hj, bind1_some, m6_run_Like_K10, hlj]
    by_cases c : b[j].Tx = t
    · rw [if_pos (by simp [c]), if_pos (by simp [c])]
    · rw [if_neg (by simp [c]), if_neg (by simp [c])]
  · show m6_run_Like_L3 b t o go1 (m + 1) (b.length : Int) = _
    rw [m6_run_Like_L3, m6_run_Like_L3B, if_neg (by omega), m6_run_Like_K11, m6_run_Like_K6, if_pos rfl]
  · show m6_run_Like_L3 b t o go1 (m + 1) (i : Int) = _
    rw [m6_run_Like_L3, m6_run_Like_L3B, if_pos (by omega), idx_ok hi, bind1_some, m6_run_Like_K12]
    by_cases c : b[i].Tx = t
    · rw [if_neg (by simp [c]), if_pos (by simp [c])]
    · rw [if_pos (by simp [c]), if_neg (by simp [c]), m6_run_Like_K6, if_neg (by omega), m6_run_Like_K7]
theorem likeDelA (a b : List TOp) (hl : a.length ≤ 200) (t : Int) (go1 : Int → Option (Bool × Int)) : m6_run_Like_L5 a t b go1 big 0 = m6_run_Like_K4 b t go1 (own a t) := by
  have e : own a t = a.filter fun e => decide (e.Tx = t) := rfl
  rw [e]
  generalize hK : (fun (l : List TOp) (_ : Unit) => m6_run_Like_K4 b t go1 l) = K
  have eK : ∀ l, m6_run_Like_K4 b t go1 l = K l () := fun l => by rw [← hK]
  rw [eK]
  refine delS_all (F1 := fun m i (_ : Unit) => m6_run_Like_L5 a t b go1 m i) (F := fun m l i j _ => m6_run_Like_L4 t b go1 m l i j) (l0 := a) (keep := fun e => decide (e.Tx = t)) (z := ⟨0, 0, 0⟩) (S := fun _ => ()) (by omega) K (fun m l i hl2 => ?_) (fun m l i j hj hj0 hl2 hlj => ?_) (fun m => ?_) (fun m i hi => ?_)
  · show m6_run_Like_L4 t b go1 (m + 1) l (i : Int) (l.length : Int) = _
    rw [m6_run_Like_L4, m6_run_Like_L4B, if_neg (by omega), m6_run_Like_K15]
    simp only [eK]
  · show m6_run_Like_L4 t b go1 (m + 1) l (i : Int) (j : Int) = _
    rw [m6_run_Like_L4, m6_run_Like_L4B, if_pos (by omega), m6_run_Like_K16, idx_ok hj, bind1_some, m6_run_Like_K17, hlj]
    by_cases c : a[j].Tx = t
    · rw [if_pos (by simp [c]), if_pos (by simp [c])]
    · rw [if_neg (by simp [c]), if_neg (by simp [c])]
  · show m6_run_Like_L5 a t b go1 (m + 1) (a.length : Int) = _
    rw [m6_run_Like_L5, m6_run_Like_L5B, if_neg (by omega), m6_run_Like_K18, m6_run_Like_K13, if_pos rfl, eK]
  · show m6_run_Like_L5 a t b go1 (m + 1) (i : Int) = _
    rw [m6_run_Like_L5, m6_run_Like_L5B, if_pos (by omega), idx_ok hi, bind1_some, m6_run_Like_K19]
    by_cases c : a[i].Tx = t
    · rw [if_neg (by simp [c]), if_pos (by simp [c])]
    · rw [if_pos (by simp [c]), if_neg (by simp [c]), m6_run_Like_K13, if_neg (by omega), m6_run_Like_K14]
theorem likeL1 (a b : List TOp) (ha : Good a) (hb : Good b) : ∀ (r t : Nat), t + r = 12 → ∀ m, r < m →
    m6_run_Like_L1 a b m (t : Int) = some (sameO a b t r && decide (srtF cfP (pairsL a) = srtF cfP (pairsL b)), 0) := by
  have hla := ha.len
  have hlb := hb.len
  intro r
  induction r with
  | zero =>
    intro t ht m hm
    obtain ⟨m, rfl⟩ := dec m hm
    have hp := pairsL_len hla
    rw [m6_run_Like_L1, m6_run_Like_L1B, if_neg (by omega), m6_run_Like_K3, pairs_eq a ha, bind1_some, pairs_eq b hb, bind1_some, prs_eq _ _ (by rw [srtF_length]; omega), bind1_some, sameO, Bool.true_and]
  | succ r ih =>
    intro t ht m hm
    obtain ⟨m, rfl⟩ := dec m (by omega)
    have ho := own_le a (t : Int)
    rw [m6_run_Like_L1, m6_run_Like_L1B, if_pos (by omega), clone_eq a hla, bind1_some, likeDelA a b hla, m6_run_Like_K4, clone_eq b hlb, bind1_some, likeDelB b hlb, m6_run_Like_K5, ops_eq _ _ (by omega), bind1_some, sameO]
    by_cases c : own a (t : Int) = own b (t : Int)
    · rw [if_pos (decide_eq_true c), isucc t (by omega), bind1_some, ih (t + 1) (by omega) m (by omega), decide_eq_true c, Bool.true_and]
    · rw [if_neg (by simp [c]), decide_eq_false c, Bool.false_and, Bool.false_and]
def aheadB (a b : List TOp) (i k : Nat) : Bool := !(clA a i k && decide (nthF (txA a k) b 0 (whA a k) < nthF (txA a i) b 0 (whA a i)))
def okRow (a b : List TOp) (i : Nat) : Nat → Nat → Bool
  | _, 0 => true
  | k, r + 1 => aheadB a b i k && okRow a b i (k + 1) r
def okAll (a b : List TOp) : Nat → Nat → Bool
  | _, 0 => true
  | i, r + 1 => okRow a b i (i + 1) r && okAll a b (i + 1) r
theorem okRow_iff {a b : List TOp} {i : Nat} : ∀ (r k : Nat), okRow a b i k r = true ↔ ∀ q, k ≤ q → q < k + r → aheadB a b i q = true
  | 0, k => by simp only [okRow, true_iff]; intro q h1 h2; omega
  | r + 1, k => by
    rw [okRow, Bool.and_eq_true, okRow_iff r (k + 1)]
    constructor
    · rintro ⟨h1, h2⟩ q h3 h4
      by_cases c : q = k
      · rw [c]; exact h1
      · exact h2 q (by omega) (by omega)
    · exact fun h => ⟨h k (by omega) (by omega), fun q h3 h4 => h q (by omega) (by omega)⟩
theorem okAll_iff {a b : List TOp} : ∀ (r i : Nat), okAll a b i r = true ↔ ∀ p q, i ≤ p → p < q → q < i + r → aheadB a b p q = true
  | 0, i => by simp only [okAll, true_iff]; intro p q h1 h2 h3; omega
  | r + 1, i => by
    rw [okAll, Bool.and_eq_true, okRow_iff, okAll_iff r (i + 1)]
    constructor
    · rintro ⟨h1, h2⟩ p q h3 h4 h5
      by_cases c : p = i
      · rw [c] at h4 ⊢; exact h1 q (by omega) (by omega)
      · exact h2 p q (by omega) h4 (by omega)
    · exact fun h => ⟨fun q h3 h4 => h i q (by omega) (by omega) (by omega), fun p q h3 h4 h5 => h p q (by omega) h4 (by omega)⟩
theorem good_kinds {l : List TOp} (hg : Good l) {i : Nat} (h : i < l.length) : 1 ≤ l[i].Kind ∧ l[i].Kind ≤ 4 := ⟨(hg.fine i h).k0, (hg.fine i h).k1⟩
theorem rlikeL2 (a b : List TOp) (ha : Good a) (hb : b.length ≤ 200) {i : Nat} (hi : i < a.length) (go1 : Int → Option Bool) : ∀ (r k : Nat), k + r = a.length → ∀ m, r < m →
    m8_quirref_Like_L2 a a[i] (i : Int) b go1 m (k : Int) = if okRow a b i k r = true then m8_quirref_Like_K3 (i : Int) go1 else some false := by
  have hla := ha.len
  intro r
  induction r with
  | zero =>
    intro k hk m hm
    obtain ⟨m, rfl⟩ := dec m hm
    rw [m8_quirref_Like_L2, m8_quirref_Like_L2B, if_neg (by omega), okRow, if_pos rfl]
  | succ r ih =>
    intro k hk m hm
    obtain ⟨m, rfl⟩ := dec m (by omega)
    have h1 : k < a.length := by omega
    have w1 := whA_le a i
    have w2 := whA_le a k
    rw [m8_quirref_Like_L2, m8_quirref_Like_L2B, if_pos (by omega), m8_quirref_Like_K4, idx_ok h1, bind1_some, clash2 _ _ (good_kinds ha hi) (good_kinds ha h1), bind1_some, okRow, aheadB, clA_at hi h1]
    by_cases c : cl a[i] a[k] = true
    · rw [if_pos c, which_eq a (by omega) hi, bind1_some, nth_eq b _ _ (by omega) (by omega), bind1_some, bind1_some, which_eq a (by omega) h1, bind1_some, nth_eq b _ _ (by omega) (by omega), bind1_some, ← txA_at hi, ← txA_at h1, txA_at hi, c, Bool.true_and]
      by_cases c2 : nthF (txA a k) b 0 (whA a k) < nthF a[i].Tx b 0 (whA a i)
      · rw [if_pos c2, decide_eq_true c2]
        simp
      · rw [if_neg c2, isucc k (by omega), bind1_some]
        have := ih (k + 1) (by omega) m (by omega)
        rw [decide_eq_false c2, Bool.not_false, Bool.true_and]
        exact this
    · rw [if_neg c, isucc k (by omega), bind1_some, ih (k + 1) (by omega) m (by omega), Bool.eq_false_iff.2 c, Bool.false_and, Bool.not_false, Bool.true_and]
theorem rlikeL1 (a b : List TOp) (ha : Good a) (hb : b.length ≤ 200) : ∀ (r i : Nat), i + r = a.length → ∀ m, r < m → m8_quirref_Like_L1 a b m (i : Int) = some (okAll a b i r) := by
  have hla := ha.len
  intro r
  induction r with
  | zero =>
    intro i hi m hm
    obtain ⟨m, rfl⟩ := dec m hm
    rw [m8_quirref_Like_L1, m8_quirref_Like_L1B, if_neg (by omega), m8_quirref_Like_K2, okAll]
  | succ r ih =>
    intro i hi m hm
    obtain ⟨m, rfl⟩ := dec m (by omega)
    have h1 : i < a.length := by omega
    rw [m8_quirref_Like_L1, m8_quirref_Like_L1B, if_pos (by omega), idx_ok h1, bind1_some, isucc i (by omega), bind1_some, rlikeL2 a b ha hb h1 _ r (i + 1) (by omega) big (lt_big (by omega)), okAll]
    by_cases c : okRow a b i (i + 1) r = true
    · rw [if_pos c, m8_quirref_Like_K3, isucc i (by omega), bind1_some, ih (i + 1) (by omega) m (by omega), c, Bool.true_and]
    · rw [if_neg c, Bool.eq_false_iff.2 c, Bool.false_and]
theorem rlikeL3 (a b : List TOp) (ha : Good a) (hb : Good b) : ∀ (r t : Nat), t + r = 12 → ∀ m, r < m → m8_quirref_Like_L3 a b m (t : Int) = some (sameO a b t r && okAll a b 0 a.length) := by
  have hla := ha.len
  have hlb := hb.len
  intro r
  induction r with
  | zero =>
    intro t ht m hm
    obtain ⟨m, rfl⟩ := dec m hm
    have := rlikeL1 a b ha hlb a.length 0 (by omega) big (lt_big (by omega))
    rw [show ((0 : Nat) : Int) = 0 from rfl] at this
    rw [m8_quirref_Like_L3, m8_quirref_Like_L3B, if_neg (by omega), m8_quirref_Like_K1, this, sameO, Bool.true_and]
  | succ r ih =>
    intro t ht m hm
    obtain ⟨m, rfl⟩ := dec m (by omega)
    have ho := own_le a (t : Int)
    rw [m8_quirref_Like_L3, m8_quirref_Like_L3B, if_pos (by omega), own_eq a _ (by omega), bind1_some, own_eq b _ (by omega), bind1_some, ops_eq _ _ (by omega), bind1_some, sameO]
    by_cases c : own a (t : Int) = own b (t : Int)
    · rw [if_pos (decide_eq_true c), isucc t (by omega), bind1_some, ih (t + 1) (by omega) m (by omega), decide_eq_true c, Bool.true_and]
    · rw [if_neg (by simp [c]), decide_eq_false c, Bool.false_and, Bool.false_and]
theorem own_out {l : List TOp} (hg : Good l) {t : Int} (h : ¬ (0 ≤ t ∧ t < 12)) : own l t = [] := by
  unfold own
  rw [List.filter_eq_nil_iff]
  intro o ho c
  obtain ⟨i, hi, rfl⟩ := List.getElem_of_mem ho
  have := of_decide_eq_true c
  have h1 := (hg.fine i hi).t0
  have h2 := (hg.fine i hi).t1
  exact h (by omega)
theorem like_eq (a b : List TOp) (ha : Good a) (hb : Good b) : ∃ v, m6_run_Like_K2 a b = some (v, 0) ∧ m8_quirref_Like a b = some v := by
  have h1 := likeL1 a b ha hb 12 0 rfl big (lt_big (by omega))
  have h2 := rlikeL3 a b ha hb 12 0 rfl big (lt_big (by omega))
  rw [show ((0 : Nat) : Int) = 0 from rfl] at h1 h2
  refine ⟨_, h1, ?_⟩
  rw [m8_quirref_Like, h2]
  congr 1
  cases hs : sameO a b 0 12 with
  | false => rfl
  | true =>
    have hall : ∀ t, own a t = own b t := fun t => by
      by_cases c : 0 ≤ t ∧ t < 12
      · exact (sameO_iff 12 0).1 hs t (by omega) (by omega)
      · rw [own_out ha c, own_out hb c]
    rw [Bool.true_and, Bool.true_and]
    have key : okAll a b 0 a.length = true ↔ srtF cfP (pairsL a) = srtF cfP (pairsL b) := by
      have na : (pairsL a).Nodup := allL_nodup (l := a) a.length 0 (by omega)
      have nb : (pairsL b).Nodup := allL_nodup (l := b) b.length 0 (by omega)
      rw [srtP_eq na nb, same_pairs hall, okAll_iff]
      constructor
      · intro h i k hik hk hc hlt
        have := h i k (by omega) hik (by omega)
        rw [aheadB, hc, decide_eq_true hlt] at this
        cases this
      · intro h p q _ hpq hq
        by_cases hc : clA a p q = true
        · have := h p q hpq (by omega) hc
          rw [aheadB, decide_eq_false this, Bool.and_false]; rfl
        · rw [aheadB, Bool.eq_false_iff.2 hc]; rfl
    by_cases c : okAll a b 0 a.length = true
    · rw [c, decide_eq_true (key.1 c)]
    · rw [Bool.eq_false_iff.2 c, decide_eq_false fun e => c (key.2 e)]
end Go.Proofs.Ytglbgeamiobldaa
