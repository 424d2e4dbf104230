/-
  Package see: who is last; and the law.
  Conditions: none.
-/
import Derived.Test.YtglbgeamiobldaaRlL
namespace Go.Proofs.Ytglbgeamiobldaa
open Go.S
set_option linter.unusedVariables false
set_option linter.unusedSimpArgs false

def gn (p : List TOp) (t : Int) : Bool := p.any fun o => decide (o.Kind = 4) && decide (o.Tx = t)
theorem gn_has {l : List TOp} (hg : Good l) (t : Int) : gn l t = decide ((⟨t, 4, 0⟩ : TOp) ∈ l) := by
  unfold gn
  rw [Bool.eq_iff_iff, List.any_eq_true, decide_eq_true_iff]
  constructor
  · rintro ⟨o, ho, h⟩
    simp only [Bool.and_eq_true, decide_eq_true_eq] at h
    obtain ⟨j, hj, rfl⟩ := List.getElem_of_mem ho
    have hit := (hg.fine j hj).item (by omega)
    have : (⟨t, 4, 0⟩ : TOp) = l[j] := by rw [← h.1, ← h.2, ← hit]
    rw [this]; exact ho
  · intro h
    exact ⟨_, h, by simp⟩
theorem goneLoop (l : List TOp) (hg : Good l) : ∀ (r i : Nat), i + r = l.length → ∀ n, r < n → m35_see_Last_L3 l n (i : Int) (tab 12 (gn (l.take i))) = m35_see_Last_K2 l (tab 12 (gn l)) := by
  have hl := hg.len
  intro r
  induction r with
  | zero =>
    intro i hi n hn
    obtain ⟨n, rfl⟩ := dec n hn
    rw [m35_see_Last_L3, m35_see_Last_L3B, if_neg (by omega), List.take_of_length_le (by omega)]
  | succ r ih =>
    intro i hi n hn
    obtain ⟨n, rfl⟩ := dec n (by omega)
    have h1 : i < l.length := by omega
    have hf := hg.fine i h1
    rw [m35_see_Last_L3, m35_see_Last_L3B, if_pos (by omega), idx_ok h1, bind1_some, isucc i (by omega), ← ih (i + 1) (by omega) n (by omega)]
    have hsn := take_snoc h1
    by_cases c : l[i].Kind = 4
    · rw [if_pos c, tab_idxA hf.t0 hf.t1, bind1_some, tab_upd _ hf.t0 hf.t1, bind1_some, bind1_some]
      congr 1
      apply tab_ext
      intro x _ _
      rw [hsn]
      unfold gn
      rw [List.any_append]
      by_cases c2 : x = l[i].Tx
      · rw [if_pos c2]; simp [c, c2]
      · rw [if_neg c2]; simp [Ne.symm c2]
    · rw [if_neg c, bind1_some]
      congr 1
      apply tab_ext
      intro x _ _
      rw [hsn]
      unfold gn
      rw [List.any_append]
      simp [c]
theorem fillLoop (l : List TOp) (g : List Bool) : ∀ (r i : Nat), i + r = 20 → ∀ n, r < n → m35_see_Last_L2 l g n (i : Int) (tab 20 fun x => if x < i then -1 else 0) = m35_see_Last_K3 l g (tab 20 fun _ => -1) := by
  intro r
  induction r with
  | zero =>
    intro i hi n hn
    obtain ⟨n, rfl⟩ := dec n hn
    rw [m35_see_Last_L2, m35_see_Last_L2B, if_neg (by omega)]
    congr 1
    apply tab_ext
    intro x _ _
    rw [if_pos (by omega)]
  | succ r ih =>
    intro i hi n hn
    obtain ⟨n, rfl⟩ := dec n (by omega)
    rw [m35_see_Last_L2, m35_see_Last_L2B, if_pos (by omega), tab_idxA (by omega) (by omega), bind1_some, tab_upd _ (by omega) (by omega), bind1_some, isucc i (by omega), bind1_some, ← ih (i + 1) (by omega) n (by omega)]
    congr 1
    apply tab_ext
    intro x _ _
    by_cases c : x = i
    · rw [if_pos c, if_pos (by omega)]
    · by_cases c2 : x < i
      · rw [if_neg c, if_pos c2, if_pos (by omega)]
      · rw [if_neg c, if_neg c2, if_neg (by omega)]
theorem wrt_at {l : List TOp} {i : Nat} (h : i < l.length) (p : List TOp) (x : Int) : wrt l p x i = (decide (l[i].Kind = 2) && decide (l[i].Item = x) && !decide ((⟨l[i].Tx, 4, 0⟩ : TOp) ∈ p)) := by
  unfold wrt
  rw [List.getElem?_eq_getElem h]
theorem lastLoop (l : List TOp) (hg : Good l) : ∀ (r i : Nat), i + r = l.length → ∀ n, r < n → m35_see_Last_L1 l (tab 12 (gn l)) n (i : Int) (tab 20 fun x => wr l l x i) = m35_see_Last_K4 (tab 20 fun x => wr l l x l.length) := by
  have hl := hg.len
  intro r
  induction r with
  | zero =>
    intro i hi n hn
    obtain ⟨n, rfl⟩ := dec n hn
    rw [m35_see_Last_L1, m35_see_Last_L1B, if_neg (by omega), show i = l.length by omega]
  | succ r ih =>
    intro i hi n hn
    obtain ⟨n, rfl⟩ := dec n (by omega)
    have h1 : i < l.length := by omega
    have hf := hg.fine i h1
    rw [m35_see_Last_L1, m35_see_Last_L1B, if_pos (by omega), idx_ok h1, bind1_some, isucc i (by omega), ← ih (i + 1) (by omega) n (by omega)]
    by_cases c : l[i].Kind = 2
    · rw [if_pos c, tab_idxA hf.t0 hf.t1, bind1_some, gn_has hg]
      by_cases c2 : (⟨l[i].Tx, 4, 0⟩ : TOp) ∈ l
      · rw [if_pos (by simp [c2]), bind1_some]
        congr 1
        apply tab_ext
        intro x _ _
        rw [wr, wrt_at h1]
        simp [c2]
      · rw [if_neg (by simp [c2]), tab_idxA hf.i0 hf.i1, bind1_some, tab_upd _ hf.i0 hf.i1, bind1_some, bind1_some]
        congr 1
        apply tab_ext
        intro x _ _
        rw [wr, wrt_at h1]
        by_cases c3 : x = l[i].Item
        · rw [if_pos c3]; simp [c, c2, c3]
        · rw [if_neg c3]; simp [Ne.symm c3]
    · rw [if_neg c, bind1_some]
      congr 1
      apply tab_ext
      intro x _ _
      rw [wr, wrt_at h1]
      simp [c]
theorem last_own (l : List TOp) (hg : Good l) : m35_see_Last_K1 l = some (tab 20 fun x => wr l l x l.length, 0) := by
  have hl := hg.len
  have h1 := goneLoop l hg l.length 0 (by omega) big (lt_big (by omega))
  have h2 := fillLoop l (tab 12 (gn l)) 20 0 (by omega) big (lt_big (by omega))
  have h3 := lastLoop l hg l.length 0 (by omega) big (lt_big (by omega))
  have e1 : tab 12 (gn (l.take 0)) = tab 12 fun _ => false := tab_ext fun _ _ _ => rfl
  have e2 : (tab 20 fun x : Int => if x < ((0 : Nat) : Int) then (-1 : Int) else 0) = tab 20 fun _ => 0 := tab_ext fun x h _ => by rw [if_neg (by omega)]
  have e3 : (tab 20 fun x => wr l l x 0) = tab 20 fun _ => -1 := tab_ext fun _ _ _ => rfl
  rw [e1, show ((0 : Nat) : Int) = 0 from rfl] at h1
  rw [e2, show ((0 : Nat) : Int) = 0 from rfl] at h2
  rw [e3, show ((0 : Nat) : Int) = 0 from rfl] at h3
  rw [m35_see_Last_K1, tab_repl, h1, m35_see_Last_K2, tab_repl, h2, m35_see_Last_K3, h3, m35_see_Last_K4, arrN_ok (tab_length ..), bind1_some, arrN_ok (by simp), bind1_some, bind1_some, bind1_some]
theorem refInner (l : List TOp) (hg : Good l) (x : Nat) (hx : x < 20) (go1 : Int → List Int → Option (List Int)) (f : Int → Int) : ∀ (r i : Nat), i + r = l.length → ∀ n, r < n →
    m26_quirref_Last_L2 l (x : Int) go1 n (i : Int) (tab 20 fun y => if y = x then wr l l x i else f y) = go1 ((x + 1 : Nat) : Int) (tab 20 fun y => if y = x then wr l l x l.length else f y) := by
  have hl := hg.len
  intro r
  induction r with
  | zero =>
    intro i hi n hn
    obtain ⟨n, rfl⟩ := dec n hn
    rw [m26_quirref_Last_L2, m26_quirref_Last_L2B, if_neg (by omega), m26_quirref_Last_K2, isucc x (by omega), bind1_some, show i = l.length by omega]
  | succ r ih =>
    intro i hi n hn
    obtain ⟨n, rfl⟩ := dec n (by omega)
    have h1 : i < l.length := by omega
    have hf := hg.fine i h1
    rw [m26_quirref_Last_L2, m26_quirref_Last_L2B, if_pos (by omega), idx_ok h1, bind1_some, ← ih (i + 1) (by omega) n (by omega), wr, wrt_at h1]
    by_cases c : l[i].Kind = 2
    · rw [if_pos c]
      by_cases c1 : l[i].Item = x
      · rw [if_pos c1, m26_quirref_Last_K3, if_pos rfl, has_eq _ _ _ (by omega), bind1_some]
        by_cases c2 : (⟨l[i].Tx, 4, 0⟩ : TOp) ∈ l
        · rw [if_pos (by simp [c2]), isucc i (by omega), bind1_some]
          simp [c, c1, c2]
        · rw [if_neg (by simp [c2]), tab_idxA (by omega) (by omega), bind1_some, tab_upd _ (by omega) (by omega), bind1_some, isucc i (by omega), bind1_some]
          congr 1
          apply tab_ext
          intro y _ _
          by_cases c3 : y = x
          · rw [if_pos c3, if_pos c3]; simp [c, c1, c2]
          · rw [if_neg c3, if_neg c3, if_neg c3]
      · rw [if_neg c1, m26_quirref_Last_K3, if_neg ff, isucc i (by omega), bind1_some]
        simp [c1]
    · rw [if_neg c, m26_quirref_Last_K3, if_neg ff, isucc i (by omega), bind1_some]
      simp [c]
theorem refOuter (l : List TOp) (hg : Good l) : ∀ (r x : Nat), x + r = 20 → ∀ n, r < n →
    m26_quirref_Last_L1 l n (x : Int) (tab 20 fun y => if y < x then wr l l y l.length else 0) = some (tab 20 fun y => wr l l y l.length) := by
  have hl := hg.len
  intro r
  induction r with
  | zero =>
    intro x hx n hn
    obtain ⟨n, rfl⟩ := dec n hn
    have e : (tab 20 fun y : Int => if y < x then wr l l y l.length else 0) = tab 20 fun y => wr l l y l.length := tab_ext fun y _ _ => by rw [if_pos (by omega)]
    rw [m26_quirref_Last_L1, m26_quirref_Last_L1B, if_neg (by omega), m26_quirref_Last_K1, e, arrN_ok (tab_length ..), bind1_some, arrN_ok (by simp), bind1_some, bind1_some, bind1_some]
  | succ r ih =>
    intro x hx n hn
    obtain ⟨n, rfl⟩ := dec n (by omega)
    have h2 := refInner l hg x (by omega) (m26_quirref_Last_L1 l n) (fun y => if y < x then wr l l y l.length else 0) l.length 0 (by omega) big (lt_big (by omega))
    have e0 : (tab 20 fun y : Int => if y = x then (-1 : Int) else if y < x then wr l l y l.length else 0) = tab 20 fun y : Int => if y = x then wr l l x 0 else if y < x then wr l l y l.length else 0 := rfl
    rw [m26_quirref_Last_L1, m26_quirref_Last_L1B, if_pos (by omega), tab_idxA (by omega) (by omega), bind1_some, tab_upd _ (by omega) (by omega), bind1_some, e0]
    refine Eq.trans h2 ?_
    rw [← ih (x + 1) (by omega) n (by omega)]
    congr 1
    apply tab_ext
    intro y _ _
    by_cases c : y = x
    · rw [if_pos c, if_pos (by omega), c]
    · by_cases c2 : y < x
      · rw [if_neg c, if_pos c2, if_pos (by omega)]
      · rw [if_neg c, if_neg c2, if_neg (by omega)]
theorem last_ref (l : List TOp) (hg : Good l) : m26_quirref_Last l = some (tab 20 fun x => wr l l x l.length) := by
  have h := refOuter l hg 20 0 (by omega) big (lt_big (by omega))
  have e : (tab 20 fun y : Int => if y < ((0 : Nat) : Int) then wr l l y l.length else 0) = tab 20 fun _ => 0 := tab_ext fun x h _ => by rw [if_neg (by omega)]
  rw [e, show ((0 : Nat) : Int) = 0 from rfl] at h
  rw [m26_quirref_Last, tab_repl, h]
end Go.Proofs.Ytglbgeamiobldaa
