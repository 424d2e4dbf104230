/-
  Package stamp: a play is what the reference says.
  Conditions: none.
-/
import Derived.Test.YtjbajaofdgalfaaStL
namespace Go.Proofs.Ytjbajaofdgalfaa
open Go.S
set_option linter.unusedVariables false
set_option linter.unusedSimpArgs false

/-! Calls of the reference's library. -/
theorem hasLoop (l : List Int) (x : Int) (hl : l.length ≤ 4611686018427387903) : ∀ (r i : Nat), i + r = l.length → ∀ n, r < n →
    ∃ k, m196_slices_Index_int_L1 l x n (i : Int) = some k ∧ (0 ≤ k ↔ x ∈ l.drop i) := by
  intro r
  induction r with
  | zero =>
    intro i hi n hn
    obtain ⟨n, rfl⟩ := dec n hn
    rw [m196_slices_Index_int_L1, m196_slices_Index_int_L1B, if_neg (by omega), List.drop_eq_nil_of_le (by omega)]
    exact ⟨-1, rfl, by simp⟩
  | succ r ih =>
    intro i hi n hn
    obtain ⟨n, rfl⟩ := dec n (by omega)
    have h1 : i < l.length := by omega
    rw [m196_slices_Index_int_L1, m196_slices_Index_int_L1B, if_pos (by omega), idx_ok h1, bind1_some, drop_cons h1]
    by_cases c : x = l[i]
    · rw [if_pos c]
      exact ⟨i, rfl, by simp [← c]⟩
    · rw [if_neg c, isucc i (by omega), bind1_some]
      obtain ⟨k, h2, h3⟩ := ih (i + 1) (by omega) n (by omega)
      exact ⟨k, h2, by rw [h3]; simp only [List.mem_cons, c, false_or]⟩
theorem has_eq (l : List Int) (x : Int) (hl : l.length ≤ 4611686018427387903) : m151_slices_Contains_int l x = some (decide (x ∈ l)) := by
  rw [m151_slices_Contains_int, m196_slices_Index_int]
  obtain ⟨k, h1, h2⟩ := hasLoop l x hl l.length 0 (by omega) big (lt_big (by omega))
  rw [show (0 : Int) = ((0 : Nat) : Int) from rfl, h1, bind1_some]
  congr 1
  rw [List.drop_zero] at h2
  simpa using h2
theorem selfInt (l : List Int) (hl : l.length ≤ 4611686018427387903) : m33_slices_Equal_int l l = some true := by
  rw [m33_slices_Equal_int, if_neg (by omega), m33_slices_Equal_int_K1]
  have : ∀ (r i : Nat), i + r = l.length → ∀ n, r < n → m33_slices_Equal_int_L1 l l n (i : Int) = some true := by
    intro r
    induction r with
    | zero =>
      intro i hi n hn
      obtain ⟨n, rfl⟩ := dec n hn
      rw [m33_slices_Equal_int_L1, m33_slices_Equal_int_L1B, if_neg (by omega)]; rfl
    | succ r ih =>
      intro i hi n hn
      obtain ⟨n, rfl⟩ := dec n (by omega)
      have h1 : i < l.length := by omega
      rw [m33_slices_Equal_int_L1, m33_slices_Equal_int_L1B, if_pos (by omega), idx_ok h1, bind1_some, bind1_some, if_neg (by simp), isucc i (by omega), bind1_some]
      exact ih (i + 1) (by omega) n (by omega)
  exact this l.length 0 (by omega) big (lt_big (by omega))
theorem selfOps (l : List TOp) (hl : l.length ≤ 4611686018427387903) : m147_api_Op l l = some true := by
  rw [m147_api_Op, if_neg (by omega), m147_api_Op_K1]
  have : ∀ (r i : Nat), i + r = l.length → ∀ n, r < n → m147_api_Op_L1 l l n (i : Int) = some true := by
    intro r
    induction r with
    | zero =>
      intro i hi n hn
      obtain ⟨n, rfl⟩ := dec n hn
      rw [m147_api_Op_L1, m147_api_Op_L1B, if_neg (by omega)]; rfl
    | succ r ih =>
      intro i hi n hn
      obtain ⟨n, rfl⟩ := dec n (by omega)
      have h1 : i < l.length := by omega
      rw [m147_api_Op_L1, m147_api_Op_L1B, if_pos (by omega), idx_ok h1, bind1_some, bind1_some, if_neg (by simp), isucc i (by omega), bind1_some]
      exact ih (i + 1) (by omega) n (by omega)
  exact this l.length 0 (by omega) big (lt_big (by omega))
theorem selfPlayed (p : TPlayed) (h1 : p.Run.length ≤ 200) (h2 : p.Dead.length ≤ 200) (h3 : p.Late.length ≤ 200) : m44_quirref_SamePlayed p p = some true := by
  rw [m44_quirref_SamePlayed, selfOps _ (by omega), bind1_some, if_pos rfl, selfInt _ (by omega), bind1_some, if_pos rfl, m44_quirref_SamePlayed_K1, if_pos rfl, selfInt _ (by omega), bind1_some]

/-! The marks on the items. -/
def mxf (k : Int) (x : Int) (m : Int) (q : TOp) : Int := if q.Kind = k ∧ q.Item = x then max m (q.Tx + 1) else m
def mx (p : List TOp) (k : Int) (x : Int) : Int := p.foldl (mxf k x) 0
theorem mx_snoc (p : List TOp) (o : TOp) (k x : Int) : mx (p ++ [o]) k x = if o.Kind = k ∧ o.Item = x then max (mx p k x) (o.Tx + 1) else mx p k x := by
  unfold mx
  rw [List.foldl_append]
  rfl
theorem yg_fold (o : TOp) (k : Int) : ∀ (p : List TOp) (m : Int), (o.Tx + 1 < p.foldl (mxf k o.Item) m ↔ (o.Tx + 1 < m ∨ yg p o k = true)) := by
  intro p
  induction p with
  | nil => intro m; simp [yg]
  | cons q p ih =>
    intro m
    rw [List.foldl_cons, ih]
    have : yg (q :: p) o k = ((decide (q.Kind = k) && decide (q.Item = o.Item) && decide (o.Tx < q.Tx)) || yg p o k) := rfl
    rw [this, mxf]
    by_cases c : q.Kind = k ∧ q.Item = o.Item
    · rw [if_pos c, decide_eq_true c.1, decide_eq_true c.2]
      simp only [Bool.true_and, Bool.or_eq_true, decide_eq_true_eq]
      rw [← or_assoc]
      refine or_congr ?_ Iff.rfl
      omega
    · rw [if_neg c]
      have : (decide (q.Kind = k) && decide (q.Item = o.Item)) = false := by simpa using c
      rw [this]
      simp
theorem yg_iff (p : List TOp) (o : TOp) (k : Int) (h : 0 ≤ o.Tx) : (mx p k o.Item ≤ o.Tx + 1) ↔ yg p o k = false := by
  have := yg_fold o k p 0
  rw [← Bool.not_eq_true]
  unfold mx
  have h2 : ¬ (o.Tx + 1 < 0) := by omega
  simp only [h2, false_or] at this
  rw [← this]
  omega

/-! The dead ones. -/
def pick (f : Int → Bool) (n : Nat) : List Int := ((List.range n).filter fun i : Nat => f (i : Int)).map fun i : Nat => (i : Int)
theorem pick_succ (f : Int → Bool) (n : Nat) : pick f (n + 1) = if f (n : Int) = true then pick f n ++ [(n : Int)] else pick f n := by
  unfold pick
  rw [List.range_succ, List.filter_append, List.map_append]
  by_cases h : f (n : Int) = true
  · rw [if_pos h]; simp [h]
  · rw [if_neg h]; simp [h]
theorem pick_length (f : Int → Bool) (n : Nat) : (pick f n).length ≤ n := by
  unfold pick
  rw [List.length_map]
  have := List.length_filter_le (fun i : Nat => f (i : Int)) (List.range n)
  rw [List.length_range] at this
  exact this
theorem srt_pick {dd : List Int} (hn : dd.Nodup) (hb : ∀ t ∈ dd, 0 ≤ t ∧ t < 12) : srt dd = pick (fun t => decide (t ∈ dd)) 12 := by
  have hp : (srt dd).Perm dd := List.mergeSort_perm _ _
  have hk : (pick (fun t => decide (t ∈ dd)) 12).Pairwise (· < ·) := by
    unfold pick
    rw [List.pairwise_map]
    refine List.Pairwise.imp (R := (· < ·)) (fun h => by omega) ?_
    exact List.Pairwise.filter _ List.pairwise_lt_range
  refine List.Perm.eq_of_pairwise (le := fun a b => a ≤ b) (fun a b _ _ h1 h2 => by omega) ?_ (List.Pairwise.imp (fun h => by omega) hk) ?_
  · have := List.pairwise_mergeSort (le := fun x y : Int => decide (x ≤ y)) (fun a b c h1 h2 => by simp only [decide_eq_true_eq] at *; omega) (fun a b => by simp only [Bool.or_eq_true, decide_eq_true_eq]; omega) dd
    exact List.Pairwise.imp (fun h => by simpa using h) this
  · refine hp.trans ((List.perm_ext_iff_of_nodup hn (List.Pairwise.imp (fun h => by omega) hk)).2 fun a => ?_)
    unfold pick
    simp only [List.mem_map, List.mem_filter, List.mem_range, decide_eq_true_eq]
    constructor
    · intro h
      have := hb a h
      exact ⟨a.toNat, ⟨by omega, by rw [Int.toNat_of_nonneg this.1]; exact h⟩, by omega⟩
    · rintro ⟨i, ⟨_, h⟩, rfl⟩
      exact h
theorem pickLoop (f : Int → Bool) (run : List TOp) : ∀ (r i : Nat), i + r = 12 → ∀ n, r < n →
    m42_stamp_Play_L1 (tab 12 f) run n (i : Int) (pick f i) = some (⟨run, pick f 12, []⟩, 0) := by
  intro r
  induction r with
  | zero =>
    intro i hi n hn
    obtain ⟨n, rfl⟩ := dec n hn
    obtain rfl : i = 12 := by omega
    rw [m42_stamp_Play_L1, m42_stamp_Play_L1B, if_neg (by omega), m42_stamp_Play_K3]
  | succ r ih =>
    intro i hi n hn
    obtain ⟨n, rfl⟩ := dec n (by omega)
    have hp := ih (i + 1) (by omega) n (by omega)
    rw [pick_succ] at hp
    have hlen := pick_length f i
    rw [m42_stamp_Play_L1, m42_stamp_Play_L1B, if_pos (by omega), tab_idxA (by omega) (by omega), bind1_some]
    by_cases c : f (i : Int) = true
    · rw [if_pos c] at hp
      rw [if_pos c, app_ok (by simp; omega), bind1_some, isucc i (by omega), bind1_some]
      exact hp
    · rw [if_neg c] at hp
      rw [if_neg c, isucc i (by omega), bind1_some]
      exact hp

/-! One operation. -/
theorem refDie (i : Nat) (hi : i < 200) (o : TOp) (run : List TOp) (dd : List Int) (g : Int → List TOp → List Int → Option TPlayed) (h1 : run.length ≤ i) (h2 : dd.length ≤ i) :
    m45_quirref_Stamp_K19 dd o run (i : Int) g = g ((i + 1 : Nat) : Int) (run ++ [⟨o.Tx, 4, 0⟩]) (dd ++ [o.Tx]) := by
  rw [m45_quirref_Stamp_K19, app_ok (by simp; omega), bind1_some, app_ok (by simp; omega), bind1_some, m45_quirref_Stamp_K2, isucc i (by omega), bind1_some]
theorem refPut (i : Nat) (hi : i < 200) (o : TOp) (run : List TOp) (dd : List Int) (g : Int → List TOp → List Int → Option TPlayed) (h1 : run.length ≤ i) :
    m45_quirref_Stamp_K5 run o (i : Int) g dd = g ((i + 1 : Nat) : Int) (run ++ [o]) dd := by
  rw [m45_quirref_Stamp_K5, app_ok (by simp; omega), bind1_some, m45_quirref_Stamp_K2, isucc i (by omega), bind1_some]
theorem refPast (i : Nat) (hi : i < 200) (run : List TOp) (dd : List Int) (g : Int → List TOp → List Int → Option TPlayed) :
    m45_quirref_Stamp_K2 (i : Int) g run dd = g ((i + 1 : Nat) : Int) run dd := by
  rw [m45_quirref_Stamp_K2, isucc i (by omega), bind1_some]
inductive Do | past | put | die
def doing (o : TOp) (skip : Bool) (run : List TOp) : Do :=
  if 3 ≤ o.Kind then .put
  else if o.Kind = 1 then (if yg run o 2 = true then .die else .put)
  else if yg run o 1 = true then .die
  else if yg run o 2 = true then (if skip = true then .past else .die)
  else .put
theorem ref_step (i : Nat) (hi : i < 200) (o : TOp) (skip : Bool) (run : List TOp) (dd : List Int) (g : Int → List TOp → List Int → Option TPlayed) (hk : 1 ≤ o.Kind) (h1 : run.length ≤ i) (h2 : dd.length ≤ i) :
    m45_quirref_Stamp_K3 o run skip dd (i : Int) g = match doing o skip run with
      | .past => g ((i + 1 : Nat) : Int) run dd
      | .put => g ((i + 1 : Nat) : Int) (run ++ [o]) dd
      | .die => g ((i + 1 : Nat) : Int) (run ++ [⟨o.Tx, 4, 0⟩]) (dd ++ [o.Tx]) := by
  rw [m45_quirref_Stamp_K3, doing]
  by_cases c3 : 3 ≤ o.Kind
  · rw [if_neg (by omega), if_pos c3, m45_quirref_Stamp_K33, if_neg ff, if_neg (by omega), m45_quirref_Stamp_K34, if_neg ff, m45_quirref_Stamp_K4, if_neg ff, if_neg (by omega), m45_quirref_Stamp_K6, if_neg ff]
    exact refPut i hi o run dd g h1
  rw [if_pos (by omega), if_neg c3, allL7 run o skip (i : Int) g dd (by omega), m45_quirref_Stamp_K33]
  by_cases c1 : o.Kind = 1
  · rw [if_pos c1]
    by_cases y2 : yg run o 2 = true
    · rw [if_pos y2, if_pos y2, m45_quirref_Stamp_K4, if_pos rfl, if_neg (by omega), m45_quirref_Stamp_K20, if_neg ff]
      exact refDie i hi o run dd g h1 h2
    · rw [if_neg y2, if_neg (by omega), if_neg y2, m45_quirref_Stamp_K34, if_neg ff, m45_quirref_Stamp_K4, if_neg ff, if_neg (by omega), m45_quirref_Stamp_K6, if_neg ff]
      exact refPut i hi o run dd g h1
  have c2 : o.Kind = 2 := by omega
  rw [if_neg c1]
  by_cases y1 : yg run o 1 = true
  · rw [if_pos y1]
    have hK4 : m45_quirref_Stamp_K4 o skip run dd (i : Int) g true = g ((i + 1 : Nat) : Int) (run ++ [⟨o.Tx, 4, 0⟩]) (dd ++ [o.Tx]) := by
      rw [m45_quirref_Stamp_K4, if_pos rfl, if_pos c2]
      by_cases cs : skip = true
      · rw [if_pos cs, m45_quirref_Stamp_K20, if_pos rfl, allL5 run o skip (i : Int) g dd (by omega), y1, m45_quirref_Stamp_K21, if_pos rfl]
        exact refDie i hi o run dd g h1 h2
      · rw [if_neg cs, m45_quirref_Stamp_K20, if_neg ff]
        exact refDie i hi o run dd g h1 h2
    by_cases y2 : yg run o 2 = true
    · rw [if_pos y2, hK4]
    · rw [if_neg y2, if_pos c2, allL6 run o skip (i : Int) g dd (by omega), y1, m45_quirref_Stamp_K34, if_pos rfl, hK4]
  rw [if_neg y1]
  by_cases y2 : yg run o 2 = true
  · rw [if_pos y2, if_pos y2, m45_quirref_Stamp_K4, if_pos rfl, if_pos c2]
    by_cases cs : skip = true
    · rw [if_pos cs, if_pos cs, m45_quirref_Stamp_K20, if_pos rfl, allL5 run o skip (i : Int) g dd (by omega), m45_quirref_Stamp_K21, if_neg y1, allL4 run o skip (i : Int) g dd (by omega), m45_quirref_Stamp_K22, if_pos y2]
      exact refPast i hi run dd g
    · rw [if_neg cs, if_neg cs, m45_quirref_Stamp_K20, if_neg ff]
      exact refDie i hi o run dd g h1 h2
  · rw [if_neg y2, if_neg y2, if_pos c2, allL6 run o skip (i : Int) g dd (by omega), m45_quirref_Stamp_K34, if_neg y1, m45_quirref_Stamp_K4, if_neg ff, if_pos c2]
    by_cases cs : skip = true
    · rw [if_pos cs, m45_quirref_Stamp_K6, if_pos rfl, allL3 run o skip (i : Int) g dd (by omega), m45_quirref_Stamp_K7, if_neg y1, allL2 run o skip (i : Int) g dd (by omega), m45_quirref_Stamp_K8, if_neg y2]
      exact refPut i hi o run dd g h1
    · rw [if_neg cs, m45_quirref_Stamp_K6, if_neg ff]
      exact refPut i hi o run dd g h1
/-- What the code holds. -/
abbrev wt (run : List TOp) : List Int := tab 20 (mx run 2)
abbrev rt (run : List TOp) : List Int := tab 20 (mx run 1)
abbrev dt (dd : List Int) : List Bool := tab 12 fun t => decide (t ∈ dd)
theorem mx_over (run : List TOp) (o : TOp) (k : Int) (h : o.Kind ≠ k) : tab 20 (mx (run ++ [o]) k) = tab 20 (mx run k) :=
  tab_ext fun x _ _ => by rw [mx_snoc, if_neg (fun h' => h h'.1)]
theorem code_die (i : Nat) (hi : i < 200) (o : TOp) (run : List TOp) (dd : List Int) (g : Int → List Int → List Int → List Bool → List TOp → Option (TPlayed × Int)) (ht0 : 0 ≤ o.Tx) (ht : o.Tx < 12) (h1 : run.length ≤ i) :
    (bind1 (idxA 12 (dt dd) o.Tx) fun _ => bind1 (upd (dt dd) o.Tx true) fun l28 => m42_stamp_Play_K6 run o (i : Int) g 4 0 (wt run) (rt run) l28) = g ((i + 1 : Nat) : Int) (wt (run ++ [⟨o.Tx, 4, 0⟩])) (rt (run ++ [⟨o.Tx, 4, 0⟩])) (dt (dd ++ [o.Tx])) (run ++ [⟨o.Tx, 4, 0⟩]) := by
  rw [tab_idxA ht0 (by omega), bind1_some, tab_upd _ ht0 (by omega), bind1_some, m42_stamp_Play_K6, app_ok (by simp; omega), bind1_some, m42_stamp_Play_K4, isucc i (by omega), bind1_some, show wt (run ++ [⟨o.Tx, 4, 0⟩]) = wt run from mx_over _ _ _ (by show (4 : Int) ≠ 2; decide), show rt (run ++ [⟨o.Tx, 4, 0⟩]) = rt run from mx_over _ _ _ (by show (4 : Int) ≠ 1; decide)]
  congr 1
  apply tab_ext
  intro t _ _
  by_cases h : t = o.Tx <;> simp [h]
theorem code_put (i : Nat) (hi : i < 200) (o : TOp) (run : List TOp) (dd : List Int) (g : Int → List Int → List Int → List Bool → List TOp → Option (TPlayed × Int)) (h1 : run.length ≤ i) (W R : List Int) (hW : W = wt (run ++ [o])) (hR : R = rt (run ++ [o])) :
    m42_stamp_Play_K6 run o (i : Int) g o.Kind o.Item W R (dt dd) = g ((i + 1 : Nat) : Int) (wt (run ++ [o])) (rt (run ++ [o])) (dt dd) (run ++ [o]) := by
  rw [m42_stamp_Play_K6, app_ok (by simp; omega), bind1_some, m42_stamp_Play_K4, isucc i (by omega), bind1_some, hW, hR]
theorem code_step (i : Nat) (hi : i < 200) (o : TOp) (skip : Bool) (run : List TOp) (dd : List Int) (g : Int → List Int → List Int → List Bool → List TOp → Option (TPlayed × Int)) (hk : 1 ≤ o.Kind) (ht0 : 0 ≤ o.Tx) (ht : o.Tx < 12) (hi0 : 0 ≤ o.Item) (hi1 : o.Item < 20) (h1 : run.length ≤ i) :
    m42_stamp_Play_K5 o run (i : Int) g (wt run) (rt run) (dt dd) skip = match doing o skip run with
      | .past => g ((i + 1 : Nat) : Int) (wt run) (rt run) (dt dd) run
      | .put => g ((i + 1 : Nat) : Int) (wt (run ++ [o])) (rt (run ++ [o])) (dt dd) (run ++ [o])
      | .die => g ((i + 1 : Nat) : Int) (wt (run ++ [⟨o.Tx, 4, 0⟩])) (rt (run ++ [⟨o.Tx, 4, 0⟩])) (dt (dd ++ [o.Tx])) (run ++ [⟨o.Tx, 4, 0⟩]) := by
  rw [m42_stamp_Play_K5, doing, i64_ok (by omega) (by omega), bind1_some]
  have e1 := yg_iff run o 1 ht0
  have e2 := yg_iff run o 2 ht0
  have hdie := code_die i hi o run dd g ht0 ht h1
  have hpast : m42_stamp_Play_K4 (i : Int) g (wt run) (rt run) (dt dd) run = g ((i + 1 : Nat) : Int) (wt run) (rt run) (dt dd) run := by
    rw [m42_stamp_Play_K4, isucc i (by omega), bind1_some]
  by_cases c3 : 3 ≤ o.Kind
  · rw [if_pos c3, if_pos c3]
    exact code_put i hi o run dd g h1 _ _ (mx_over _ _ _ (by omega)).symm (mx_over _ _ _ (by omega)).symm
  rw [if_neg c3, if_neg c3]
  have hr : idxA 20 (rt run) o.Item = some (mx run 1 o.Item) := tab_idxA hi0 (by omega)
  have hw : idxA 20 (wt run) o.Item = some (mx run 2 o.Item) := tab_idxA hi0 (by omega)
  by_cases c1 : o.Kind = 1
  · rw [if_pos c1, if_pos c1, hw, bind1_some]
    by_cases y2 : yg run o 2 = true
    · rw [if_pos y2, if_neg (by rw [e2]; simp [y2]), m42_stamp_Play_K7, if_neg ff, if_neg (by omega), m42_stamp_Play_K8, if_neg ff, if_neg (by omega), m42_stamp_Play_K9, if_neg ff, hdie]
    · rw [if_neg y2, if_pos (by rw [e2]; simpa using y2), m42_stamp_Play_K7, if_pos rfl, hr, bind1_some, bind1_some, tab_upd _ hi0 (by omega), bind1_some]
      refine code_put i hi o run dd g h1 _ _ (mx_over _ _ _ (by omega)).symm (tab_ext fun x _ _ => ?_)
      rw [mx_snoc]
      by_cases hx : x = o.Item
      · rw [if_pos hx, if_pos ⟨c1, hx.symm⟩, hx]
      · rw [if_neg hx, if_neg (fun h => hx h.2.symm)]
  have c2 : o.Kind = 2 := by omega
  rw [if_neg c1, if_neg c1, m42_stamp_Play_K7, if_neg ff, if_pos c2, hr, bind1_some]
  by_cases y1 : yg run o 1 = true
  · rw [if_pos y1, if_neg (by rw [e1]; simp [y1]), m42_stamp_Play_K8, if_neg ff, if_pos c2, hr, bind1_some, if_neg (by rw [e1]; simp [y1]), m42_stamp_Play_K9, if_neg ff, hdie]
  rw [if_neg y1, if_pos (by rw [e1]; simpa using y1), m42_stamp_Play_K8, if_pos rfl, hw, bind1_some]
  by_cases y2 : yg run o 2 = true
  · rw [if_pos y2, if_neg (by rw [e2]; simp [y2]), if_pos c2, hr, bind1_some, if_pos (by rw [e1]; simpa using y1), m42_stamp_Play_K10, if_pos rfl]
    by_cases cs : skip = true
    · rw [if_pos cs, if_pos cs]; exact hpast
    · rw [if_neg cs, if_neg cs]; exact hdie
  · rw [if_neg y2, if_pos (by rw [e2]; simpa using y2), bind1_some, tab_upd _ hi0 (by omega), bind1_some]
    have hle : mx run 2 o.Item ≤ o.Tx + 1 := by rw [e2]; simpa using y2
    refine code_put i hi o run dd g h1 _ _ (tab_ext fun x _ _ => ?_) (mx_over _ _ _ (by omega)).symm
    rw [mx_snoc]
    by_cases hx : x = o.Item
    · rw [if_pos hx, if_pos ⟨c2, hx.symm⟩, hx]; omega
    · rw [if_neg hx, if_neg (fun h => hx h.2.symm)]
theorem play_ref (l : List TOp) (skip : Bool) (hg : Good l) : ∀ (r i : Nat), i + r = l.length → ∀ (run : List TOp) (dd : List Int), run.length ≤ i → dd.length ≤ i → (∀ t ∈ dd, 0 ≤ t ∧ t < 12) → dd.Nodup → ∀ n n', r < n → r < n' →
    ∃ p : TPlayed, m42_stamp_Play_L2 l skip n (i : Int) (wt run) (rt run) (dt dd) run = some (p, 0) ∧ m45_quirref_Stamp_L1 l skip n' (i : Int) run dd = some p ∧ p.Run.length ≤ 200 ∧ p.Dead.length ≤ 200 ∧ p.Late.length ≤ 200 := by
  have hlen := hg.len
  intro r
  induction r with
  | zero =>
    intro i hi run dd h1 h2 hb hd n n' hn hn'
    obtain ⟨n, rfl⟩ := dec n hn
    obtain ⟨n', rfl⟩ := dec n' hn'
    refine ⟨⟨run, pick (fun t => decide (t ∈ dd)) 12, []⟩, ?_, ?_, by show run.length ≤ 200; omega, ?_, by simp⟩
    · rw [m42_stamp_Play_L2, m42_stamp_Play_L2B, if_neg (by omega), m42_stamp_Play_K2, arrN_ok (tab_length _ _), bind1_some]
      exact pickLoop _ run 12 0 (by omega) big (lt_big (by omega))
    · rw [m45_quirref_Stamp_L1, m45_quirref_Stamp_L1B, if_neg (by omega), m45_quirref_Stamp_K1, xSort, if_pos (by omega), bind1_some, srt_pick hd hb]
    · have := pick_length (fun t => decide (t ∈ dd)) 12
      show (pick (fun t => decide (t ∈ dd)) 12).length ≤ 200
      omega
  | succ r ih =>
    intro i hi run dd h1 h2 hb hd n n' hn hn'
    obtain ⟨n, rfl⟩ := dec n (by omega)
    obtain ⟨n', rfl⟩ := dec n' (by omega)
    have hil : i < l.length := by omega
    have hf := hg.fine i hil
    rw [m42_stamp_Play_L2, m42_stamp_Play_L2B, if_pos (by omega), m45_quirref_Stamp_L1, m45_quirref_Stamp_L1B, if_pos (by omega), idx_ok hil, bind1_some, bind1_some, has_eq _ _ (by omega), bind1_some, tab_idxA hf.t0 (by have := hf.t1; omega), bind1_some]
    by_cases c : l[i].Tx ∈ dd
    · rw [if_pos (decide_eq_true c), if_pos (decide_eq_true c), m42_stamp_Play_K4, m45_quirref_Stamp_K2, isucc i (by omega), bind1_some, bind1_some]
      exact ih (i + 1) (by omega) run dd (by omega) (by omega) hb hd n n' (by omega) (by omega)
    · rw [if_neg (by simp [c]), if_neg (by simp [c]), code_step i (by omega) l[i] skip run dd _ hf.k0 hf.t0 hf.t1 hf.i0 hf.i1 h1, ref_step i (by omega) l[i] skip run dd _ hf.k0 h1 h2]
      cases doing l[i] skip run with
      | past => exact ih (i + 1) (by omega) run dd (by omega) (by omega) hb hd n n' (by omega) (by omega)
      | put => exact ih (i + 1) (by omega) (run ++ [l[i]]) dd (by simp; omega) (by omega) hb hd n n' (by omega) (by omega)
      | die =>
        refine ih (i + 1) (by omega) (run ++ [⟨l[i].Tx, 4, 0⟩]) (dd ++ [l[i].Tx]) (by simp; omega) (by simp; omega) ?_ ?_ n n' (by omega) (by omega)
        · intro t ht
          rcases List.mem_append.1 ht with ht | ht
          · exact hb t ht
          · rw [List.mem_singleton.1 ht]; exact ⟨hf.t0, hf.t1⟩
        · rw [List.nodup_append]
          refine ⟨hd, by simp, ?_⟩
          intro a ha b hb' hab
          rw [List.mem_singleton.1 hb'] at hab
          exact c (hab ▸ ha)
theorem stamp_true (l : List TOp) (skip : Bool) : m7_quirlaw_StampPlays l skip = some true := by
  obtain ⟨e, h1, h2, h3⟩ := run_eq l
  rw [m7_quirlaw_StampPlays, m42_stamp_Play, h2, bind1_some, h1]
  by_cases he : e = 0
  · subst he
    have hg := h3 rfl
    rw [if_neg (by simp), m42_stamp_Play_K1, tab_repl, tab_repl]
    obtain ⟨p, h4, h5, h6, h7, h8⟩ := play_ref l skip hg l.length 0 (by omega) [] [] (by simp) (by simp) (by simp) (by simp) big big (lt_big (by have := hg.len; omega)) (lt_big (by have := hg.len; omega))
    have e0 : (tab 20 fun _ => (0 : Int)) = wt [] := rfl
    have e1 : (tab 20 fun _ => (0 : Int)) = rt [] := rfl
    have e2 : (tab 12 fun _ => false) = dt [] := tab_ext fun t _ _ => by simp
    have h4' : m42_stamp_Play_L2 l skip big 0 (tab 20 fun _ => (0 : Int)) (tab 20 fun _ => (0 : Int)) (tab 12 fun _ => false) [] = some (p, 0) := by rw [e2]; exact h4
    have h5' : m45_quirref_Stamp l skip = some p := h5
    rw [h4', bind2_some, bind1_some, if_neg (by simp), m7_quirlaw_StampPlays_K1, h5', bind1_some, selfPlayed p h6 h7 h8, bind1_some, if_pos rfl]
    simp
  · rw [if_pos he, bind2_some, bind1_some, if_pos he, selfPlayed _ (by simp) (by simp) (by simp), bind1_some, if_pos rfl]
    simp
end Go.Proofs.Ytjbajaofdgalfaa
