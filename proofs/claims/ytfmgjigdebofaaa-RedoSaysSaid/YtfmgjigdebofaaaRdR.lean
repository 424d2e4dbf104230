/-
  Package redo: pages, and what is done again and undone.
  Conditions: none.
-/
import Derived.Test.YtfmgjigdebofaaaRdC
import Derived.Test.YtfmgjigdebofaaaRk
namespace Go.Proofs.Ytfmgjigdebofaaa
open Go.S
set_option linter.unusedVariables false
set_option linter.unusedSimpArgs false
theorem list_tab {α : Type} {n : Nat} {l : List α} (z : α) (h : l.length = n) : l = tab n fun i => (l[i.toNat]?).getD z := by
  apply List.ext_getElem?
  intro i
  by_cases hi : i < n
  · rw [tab_get hi, Int.toNat_natCast, List.getElem?_eq_getElem (by omega)]
    rfl
  · rw [List.getElem?_eq_none (by omega), List.getElem?_eq_none (by rw [tab_length]; omega)]
abbrev zp : TPage := ⟨0, 0⟩
/-! ### Pages -/
def pgs (l : List TRec) (A : Int → Int) (i : Nat) (it : Int) : TPage := if 0 ≤ luN l it (min i (A it).toNat) then ⟨(recN l (luN l it (min i (A it).toNat)).toNat).New, luN l it (min i (A it).toNat) + 1⟩ else zp
theorem pgs_keep {l : List TRec} {A : Int → Int} {i : Nat} (h : i < l.length) {it : Int} (c : ¬ (l[i].Kind = 1 ∧ l[i].Item = it ∧ (i : Int) < A it)) : pgs l A (i + 1) it = pgs l A i it := by
  unfold pgs
  by_cases c1 : i < (A it).toNat
  · rw [Nat.min_eq_left (by omega), Nat.min_eq_left (by omega), lu_keep h (fun e => c ⟨e.1, e.2, by omega⟩)]
  · rw [Nat.min_eq_right (by omega), Nat.min_eq_right (by omega)]
theorem pgs_now {l : List TRec} {A : Int → Int} {i : Nat} (h : i < l.length) {it : Int} (h1 : l[i].Kind = 1) (h2 : it = l[i].Item) (h3 : (i : Int) < A it) : pgs l A (i + 1) it = ⟨l[i].New, ((i + 1 : Nat) : Int)⟩ := by
  unfold pgs
  rw [Nat.min_eq_left (by omega), lu_now h h1 h2, if_pos (by omega), Int.toNat_natCast, recN_at h]
  rfl
theorem pagesOwn (l : List TRec) (hl : l.length ≤ 400) (hok : ∀ j (hj : j < l.length), Rok l[j]) (A : Int → Int) : ∀ (r i : Nat), i + r = l.length → ∀ n, r < n → m58_redo_Pages_L1 l (tab 20 A) n (i : Int) (tab 20 (pgs l A i)) = some (tab 20 (pgs l A l.length), 0) := by
  intro r
  induction r with
  | zero =>
    intro i hi n hn
    obtain ⟨n, rfl⟩ := dec n hn
    rw [m58_redo_Pages_L1, m58_redo_Pages_L1B, if_neg (by omega), m58_redo_Pages_K2, arrN_ok (tab_length _ _), bind1_some, arrN_ok (by simp), bind1_some, bind1_some, bind1_some, show i = l.length by omega]
  | succ r ih =>
    intro i hi n hn
    obtain ⟨n, rfl⟩ := dec n (by omega)
    have h1 : i < l.length := by omega
    have ho := hok i h1
    have ih := ih (i + 1) (by omega) n (by omega)
    have hi0 := ho.i0
    have hi1 := ho.i1
    rw [m58_redo_Pages_L1, m58_redo_Pages_L1B, if_pos (by omega), idx_ok h1, bind1_some, tab_idxA hi0 (by omega), bind1_some, isucc i (by omega)]
    simp only [bind1_some]
    rw [tab_idxA hi0 (by omega), bind1_some, tab_upd _ hi0 (by omega), bind1_some]
    by_cases c1 : l[i].Kind = 1
    · rw [if_pos c1]
      by_cases c2 : (i : Int) < A l[i].Item
      · rw [if_pos c2]
        have e : tab 20 (fun it => if it = l[i].Item then (⟨l[i].New, ((i + 1 : Nat) : Int)⟩ : TPage) else pgs l A i it) = tab 20 (pgs l A (i + 1)) := tab_ext fun it _ _ => by
          by_cases c3 : it = l[i].Item
          · rw [if_pos c3, pgs_now h1 c1 c3 (by rw [c3]; exact c2)]
          · rw [if_neg c3, pgs_keep h1 (fun e => c3 e.2.1.symm)]
        rw [e]; exact ih
      · rw [if_neg c2]
        have e : tab 20 (pgs l A i) = tab 20 (pgs l A (i + 1)) := tab_ext fun it _ _ => (pgs_keep h1 (fun e => c2 (by rw [e.2.1]; exact e.2.2))).symm
        rw [e]; exact ih
    · rw [if_neg c1]
      have e : tab 20 (pgs l A i) = tab 20 (pgs l A (i + 1)) := tab_ext fun it _ _ => (pgs_keep h1 (fun e => c1 e.1)).symm
      rw [e]; exact ih
theorem pagesRef (l : List TRec) (hl : l.length ≤ 400) (A : Int → Int) : ∀ (r i : Nat), i + r = 20 → ∀ n, r < n → m62_quirref_Pages_L1 (tab 20 A) l n (i : Int) (tab 20 fun it => if it < (i : Int) then pgs l A l.length it else zp) = some (tab 20 (pgs l A l.length)) := by
  intro r
  induction r with
  | zero =>
    intro i hi n hn
    obtain ⟨n, rfl⟩ := dec n hn
    rw [m62_quirref_Pages_L1, m62_quirref_Pages_L1B, if_neg (by omega), m62_quirref_Pages_K1, arrN_ok (tab_length _ _), bind1_some, arrN_ok (by simp), bind1_some, bind1_some, bind1_some]
    congr 1
    exact tab_ext fun it _ h => by rw [if_pos (by omega)]
  | succ r ih =>
    intro i hi n hn
    obtain ⟨n, rfl⟩ := dec n (by omega)
    have ih := ih (i + 1) (by omega) n (by omega)
    have hm : max 0 (min (A (i : Int)) (l.length : Int)) = ((min l.length (A (i : Int)).toNat : Nat) : Int) := by omega
    rw [m62_quirref_Pages_L1, m62_quirref_Pages_L1B, if_pos (by omega), tab_idxA (by omega) (by omega), bind1_some, hm, cut_take l _ (by omega), bind1_some, lu_eq l _ _ (by omega) (by omega), bind1_some, isucc i (by omega)]
    simp only [bind1_some]
    have hr := luN_range l (i : Int) (min l.length (A (i : Int)).toNat)
    have hp : pgs l A l.length (i : Int) = if 0 ≤ luN l (i : Int) (min l.length (A (i : Int)).toNat) then ⟨(recN l (luN l (i : Int) (min l.length (A (i : Int)).toNat)).toNat).New, luN l (i : Int) (min l.length (A (i : Int)).toNat) + 1⟩ else zp := rfl
    by_cases c : 0 ≤ luN l (i : Int) (min l.length (A (i : Int)).toNat)
    · rw [if_pos c] at hp
      obtain ⟨k, hk⟩ := Int.eq_ofNat_of_zero_le c
      have hkl : k < l.length := by omega
      rw [hk, Int.toNat_natCast, recN_at hkl] at hp
      rw [hk, if_pos (by omega), idx_ok hkl, bind1_some, isucc k (by omega), bind1_some, tab_idxA (by omega) (by omega), bind1_some, tab_upd _ (by omega) (by omega), bind1_some]
      have e : tab 20 (fun it => if it = (i : Int) then (⟨l[k].New, ((k + 1 : Nat) : Int)⟩ : TPage) else if it < (i : Int) then pgs l A l.length it else zp) = tab 20 (fun it => if it < ((i + 1 : Nat) : Int) then pgs l A l.length it else zp) := tab_ext fun it _ _ => by
        by_cases c2 : it = (i : Int)
        · rw [if_pos c2, if_pos (by omega), c2, hp]
          rfl
        · rw [if_neg c2]
          by_cases c3 : it < (i : Int)
          · rw [if_pos c3, if_pos (by omega)]
          · rw [if_neg c3, if_neg (by omega)]
      rw [e]; exact ih
    · rw [if_neg c] at hp
      rw [if_neg c]
      have e : tab 20 (fun it => if it < (i : Int) then pgs l A l.length it else zp) = tab 20 (fun it => if it < ((i + 1 : Nat) : Int) then pgs l A l.length it else zp) := tab_ext fun it _ _ => by
        by_cases c2 : it = (i : Int)
        · rw [if_neg (by omega), if_pos (by omega), c2, hp]
        · by_cases c3 : it < (i : Int)
          · rw [if_pos c3, if_pos (by omega)]
          · rw [if_neg c3, if_neg (by omega)]
      rw [e]; exact ih

/-! ### Done again -/
def fw (l : List TRec) (P : Int → TPage) (i : Nat) (it : Int) : TPage := if (P it).Lsn < luN l it i + 1 ∧ 0 ≤ luN l it i then ⟨(recN l (luN l it i).toNat).New, luN l it i + 1⟩ else P it
theorem fw_keep {l : List TRec} {P : Int → TPage} {i : Nat} (h : i < l.length) {it : Int} (c : ¬ (l[i].Kind = 1 ∧ l[i].Item = it)) : fw l P (i + 1) it = fw l P i it := by
  unfold fw
  rw [lu_keep h c]
theorem fw_now {l : List TRec} {P : Int → TPage} {i : Nat} (h : i < l.length) {it : Int} (h1 : l[i].Kind = 1) (h2 : it = l[i].Item) : fw l P (i + 1) it = if (fw l P i it).Lsn < ((i + 1 : Nat) : Int) then ⟨l[i].New, ((i + 1 : Nat) : Int)⟩ else fw l P i it := by
  have hr := luN_range l it i
  have e : fw l P (i + 1) it = if (P it).Lsn < ((i + 1 : Nat) : Int) then ⟨l[i].New, ((i + 1 : Nat) : Int)⟩ else P it := by
    unfold fw
    rw [lu_now h h1 h2, Int.toNat_natCast, recN_at h]
    by_cases c : (P it).Lsn < (i : Int) + 1
    · rw [if_pos ⟨c, by omega⟩, if_pos (by omega)]; rfl
    · rw [if_neg (fun e => c e.1), if_neg (by omega)]
  rw [e]
  unfold fw
  by_cases c : (P it).Lsn < luN l it i + 1 ∧ 0 ≤ luN l it i
  · rw [if_pos c, if_pos (by omega), if_pos (show luN l it i + 1 < ((i + 1 : Nat) : Int) by omega)]
  · rw [if_neg c]
theorem clone_eq (l : List TRec) (hl : l.length ≤ 1000) : m113_api_Rec l = some l := by
  rw [m113_api_Rec, app_ok (by simp; omega), bind1_some]
  rfl
theorem fwOwn (l : List TRec) (hl : l.length ≤ 400) (hok : ∀ j (hj : j < l.length), Rok l[j]) (P : Int → TPage) : ∀ (r i : Nat), i + r = l.length → ∀ n, r < n → m59_redo_Recover_L3 l l n (i : Int) (tab 12 (ended (l.take i))) (tab 20 (fw l P i)) = m59_redo_Recover_K3 l (tab 12 (ended l)) l (tab 20 (fw l P l.length)) := by
  intro r
  induction r with
  | zero =>
    intro i hi n hn
    obtain ⟨n, rfl⟩ := dec n hn
    rw [m59_redo_Recover_L3, m59_redo_Recover_L3B, if_neg (by omega), m59_redo_Recover_K2, show i = l.length by omega, List.take_length]
  | succ r ih =>
    intro i hi n hn
    obtain ⟨n, rfl⟩ := dec n (by omega)
    have h1 : i < l.length := by omega
    have ho := hok i h1
    have ih := ih (i + 1) (by omega) n (by omega)
    have hi0 := ho.i0
    have hi1 := ho.i1
    have ht0 := ho.t0
    have ht1 := ho.t1
    rw [m59_redo_Recover_L3, m59_redo_Recover_L3B, if_pos (by omega), idx_ok h1, bind1_some, tab_idxA ht0 (by omega), bind1_some, tab_upd _ ht0 (by omega), bind1_some, isucc i (by omega)]
    simp only [bind1_some]
    rw [tab_idxA hi0 (by omega), bind1_some, bind1_some, tab_upd _ hi0 (by omega), bind1_some]
    by_cases c1 : l[i].Kind = 1
    · rw [if_neg (by simpa using c1)]
      have e2 : tab 12 (ended (l.take i)) = tab 12 (ended (l.take (i + 1))) := tab_ext fun t _ _ => by rw [ended_succ h1, ends_one c1, Bool.or_false]
      by_cases c2 : (fw l P i l[i].Item).Lsn < ((i + 1 : Nat) : Int)
      · rw [if_pos c2]
        have e : tab 20 (fun it => if it = l[i].Item then (⟨l[i].New, ((i + 1 : Nat) : Int)⟩ : TPage) else fw l P i it) = tab 20 (fw l P (i + 1)) := tab_ext fun it _ _ => by
          by_cases c3 : it = l[i].Item
          · rw [if_pos c3, fw_now h1 c1 c3, c3, if_pos c2]
          · rw [if_neg c3, fw_keep h1 (fun e => c3 e.2.symm)]
        rw [e, e2]; exact ih
      · rw [if_neg c2]
        have e : tab 20 (fw l P i) = tab 20 (fw l P (i + 1)) := tab_ext fun it _ _ => by
          by_cases c3 : it = l[i].Item
          · rw [fw_now h1 c1 c3, c3, if_neg c2]
          · rw [fw_keep h1 (fun e => c3 e.2.symm)]
        rw [e, e2]; exact ih
    · rw [if_pos c1]
      have hk : l[i].Kind = 2 ∨ l[i].Kind = 3 := ho.kd.resolve_left c1
      have e : tab 20 (fw l P i) = tab 20 (fw l P (i + 1)) := tab_ext fun it _ _ => (fw_keep h1 (fun e => c1 e.1)).symm
      have e2 : tab 12 (fun t => if t = l[i].Tx then true else ended (l.take i) t) = tab 12 (ended (l.take (i + 1))) := tab_ext fun t _ _ => by
        have hen : endsB t l[i] = decide (l[i].Tx = t) := by
          unfold endsB
          rcases hk with hk | hk <;> simp [hk]
        rw [ended_succ h1, hen]
        by_cases ct : t = l[i].Tx
        · rw [if_pos ct, decide_eq_true ct.symm, Bool.or_true]
        · rw [if_neg ct, decide_eq_false (fun e => ct e.symm), Bool.or_false]
      rw [e, e2]; exact ih
theorem fwRef (l : List TRec) (hl : l.length ≤ 400) (P : Int → TPage) : ∀ (r i : Nat), i + r = 20 → ∀ n, r < n → m61_quirref_Recover_L3 l n (i : Int) (tab 20 fun it => if it < (i : Int) then fw l P l.length it else P it) = m61_quirref_Recover_K1 l (tab 20 (fw l P l.length)) := by
  intro r
  induction r with
  | zero =>
    intro i hi n hn
    obtain ⟨n, rfl⟩ := dec n hn
    rw [m61_quirref_Recover_L3, m61_quirref_Recover_L3B, if_neg (by omega)]
    congr 1
    exact tab_ext fun it _ h => by rw [if_pos (by omega)]
  | succ r ih =>
    intro i hi n hn
    obtain ⟨n, rfl⟩ := dec n (by omega)
    have ih := ih (i + 1) (by omega) n (by omega)
    have hlu := lu_eq l l.length (i : Int) (by omega) (Nat.le_refl _)
    rw [List.take_length] at hlu
    have hr := luN_range l (i : Int) l.length
    rw [m61_quirref_Recover_L3, m61_quirref_Recover_L3B, if_pos (by omega), hlu, bind1_some, i64_ok (by omega) (by omega), bind1_some, tab_idxA (by omega) (by omega), bind1_some, isucc i (by omega)]
    simp only [bind1_some]
    rw [if_neg (show ¬ (i : Int) < (i : Int) by omega)]
    have hp : fw l P l.length (i : Int) = if (P (i : Int)).Lsn < luN l (i : Int) l.length + 1 ∧ 0 ≤ luN l (i : Int) l.length then ⟨(recN l (luN l (i : Int) l.length).toNat).New, luN l (i : Int) l.length + 1⟩ else P (i : Int) := rfl
    have keep : fw l P l.length (i : Int) = P (i : Int) → tab 20 (fun it => if it < (i : Int) then fw l P l.length it else P it) = tab 20 (fun it => if it < ((i + 1 : Nat) : Int) then fw l P l.length it else P it) := fun hq => tab_ext fun it _ _ => by
      by_cases c2 : it = (i : Int)
      · rw [if_neg (by omega), if_pos (by omega), c2, hq]
      · by_cases c3 : it < (i : Int)
        · rw [if_pos c3, if_pos (by omega)]
        · rw [if_neg c3, if_neg (by omega)]
    by_cases c1 : (P (i : Int)).Lsn < luN l (i : Int) l.length + 1
    · rw [if_pos c1]
      by_cases c2 : 0 ≤ luN l (i : Int) l.length
      · rw [if_pos ⟨c1, c2⟩] at hp
        obtain ⟨k, hk⟩ := Int.eq_ofNat_of_zero_le c2
        have hkl : k < l.length := by omega
        rw [hk, Int.toNat_natCast, recN_at hkl] at hp
        rw [if_pos c2, hk, idx_ok hkl, bind1_some, tab_upd _ (by omega) (by omega), bind1_some]
        have e : tab 20 (fun it => if it = (i : Int) then (⟨l[k].New, (k : Int) + 1⟩ : TPage) else if it < (i : Int) then fw l P l.length it else P it) = tab 20 (fun it => if it < ((i + 1 : Nat) : Int) then fw l P l.length it else P it) := tab_ext fun it _ _ => by
          by_cases c2 : it = (i : Int)
          · rw [if_pos c2, if_pos (by omega), c2, hp]
          · rw [if_neg c2]
            by_cases c3 : it < (i : Int)
            · rw [if_pos c3, if_pos (by omega)]
            · rw [if_neg c3, if_neg (by omega)]
        rw [e]; exact ih
      · rw [if_neg c2, keep (by rw [hp, if_neg (fun e => c2 e.2)])]
        exact ih
    · rw [if_neg c1, keep (by rw [hp, if_neg (fun e => c1 e.1)])]
      exact ih

/-! ### Undone -/
theorem endsLoop (los : Int → Bool) (pg : Int → TPage) : ∀ (r j : Nat), j + r = 12 → ∀ n n', r < n → r < n' → ∀ out : List TRec, out.length + r ≤ 1000 →
    ∃ out' : List TRec, out'.length ≤ 1000 ∧ m59_redo_Recover_L2 (tab 12 los) (tab 20 pg) n (j : Int) out = some (out', tab 20 pg, 0) ∧ m61_quirref_Recover_L1 (tab 12 los) (tab 20 pg) n' out (j : Int) = some (out', tab 20 pg) := by
  intro r
  induction r with
  | zero =>
    intro j hj n n' hn hn' out ho
    obtain ⟨n, rfl⟩ := dec n hn
    obtain ⟨n', rfl⟩ := dec n' hn'
    refine ⟨out, by omega, ?_, ?_⟩
    · rw [m59_redo_Recover_L2, m59_redo_Recover_L2B, if_neg (by omega), m59_redo_Recover_K4, arrN_ok (tab_length _ _), bind1_some, arrN_ok (by simp), bind1_some, bind1_some, bind1_some]
    · rw [m61_quirref_Recover_L1, m61_quirref_Recover_L1B, if_neg (by omega), m61_quirref_Recover_K3, arrN_ok (tab_length _ _), bind1_some, arrN_ok (by simp), bind1_some, bind1_some, bind1_some]
  | succ r ih =>
    intro j hj n n' hn hn' out ho
    obtain ⟨n, rfl⟩ := dec n (by omega)
    obtain ⟨n', rfl⟩ := dec n' (by omega)
    rw [m59_redo_Recover_L2, m59_redo_Recover_L2B, if_pos (show (j : Int) < 12 by omega), tab_idxA (by omega) (by omega), bind1_some, m61_quirref_Recover_L1, m61_quirref_Recover_L1B, if_pos (show (j : Int) < 12 by omega), tab_idxA (by omega) (by omega), bind1_some, app_ok (by simp; omega), bind1_some, bind1_some, isucc j (by omega)]
    simp only [bind1_some]
    by_cases c : los (j : Int) = true
    · rw [if_pos c, if_pos c]
      exact ih (j + 1) (by omega) n n' (by omega) (by omega) _ (by simp; omega)
    · rw [if_neg c, if_neg c]
      exact ih (j + 1) (by omega) n n' (by omega) (by omega) _ (by omega)
theorem ended_at {l : List TRec} {q : Nat} (h : q < l.length) (hk : l[q].Kind = 2 ∨ l[q].Kind = 3) : ended l l[q].Tx = true := by
  unfold ended
  rw [List.any_eq_true]
  refine ⟨l[q], List.getElem_mem h, ?_⟩
  unfold endsB
  rcases hk with hk | hk <;> simp [hk]
theorem backLoop (l : List TRec) (hl : l.length ≤ 400) (hok : ∀ j (hj : j < l.length), Rok l[j]) : ∀ (q : Nat), q ≤ l.length → ∀ n, q < n → ∀ (los : Int → Bool) (out : List TRec) (pg : Int → TPage), out.length + q ≤ 900 →
    ∃ (out' : List TRec) (pg' : Int → TPage), out'.length ≤ 1000 ∧ m59_redo_Recover_R1 (tab 12 (ended l)) (l.take q).reverse (tab 12 los) out (tab 20 pg) = some (out', tab 20 pg', 0) ∧ m61_quirref_Recover_L2 l n out ((q : Int) - 1) (tab 12 los) (tab 20 pg) = some (out', tab 20 pg') := by
  intro q
  induction q with
  | zero =>
    intro hq n hn los out pg ho
    obtain ⟨n, rfl⟩ := dec n hn
    obtain ⟨out', h1, h2, h3⟩ := endsLoop los pg 12 0 (by omega) big big (lt_big (by omega)) (lt_big (by omega)) out (by omega)
    refine ⟨out', pg, h1, ?_, ?_⟩
    · show bind1 (arrN 12 (tab 12 los)) _ = _
      rw [arrN_ok (tab_length _ _), bind1_some]
      exact h2
    · rw [m61_quirref_Recover_L2, m61_quirref_Recover_L2B, if_neg (by omega), m61_quirref_Recover_K2]
      exact h3
  | succ q ih =>
    intro hq n hn los out pg ho
    obtain ⟨n, rfl⟩ := dec n (by omega)
    have h1 : q < l.length := by omega
    have hk := hok q h1
    have hi0 := hk.i0
    have hi1 := hk.i1
    have ht0 := hk.t0
    have ht1 := hk.t1
    have hrv : (l.take (q + 1)).reverse = l[q] :: (l.take q).reverse := by rw [take_snoc h1]; simp
    have ih := ih (by omega) n (by omega)
    have hen := ended_eq l l[q].Tx (by omega)
    have hi64 : i64 ((q : Int) - 1) = some ((q : Int) - 1) := i64_ok (by omega) (by omega)
    rw [hrv, m59_redo_Recover_R1, m59_redo_Recover_R1B, tab_idxA ht0 (by omega), bind1_some, m61_quirref_Recover_L2, m61_quirref_Recover_L2B, show ((q + 1 : Nat) : Int) - 1 = (q : Int) by omega, if_pos (show (0 : Int) ≤ (q : Int) by omega), m61_quirref_Recover_K4, idx_ok h1, bind1_some, hen, bind1_some, hi64, bind1_some]
    by_cases c : ended l l[q].Tx = true
    · rw [if_pos c, if_pos c]
      exact ih los out pg (by omega)
    · have c1 : l[q].Kind = 1 := by
        rcases hk.kd with h | h
        · exact h
        · exact absurd (ended_at h1 h) c
      rw [if_neg c, if_neg c, if_neg (by simpa using c1), m61_quirref_Recover_K5]
      have hx1 := tab_idxA (f := los) ht0 (show l[q].Tx < (12 : Nat) by omega)
      have hx2 := tab_idxA (f := pg) hi0 (show l[q].Item < (20 : Nat) by omega)
      have hu1 := tab_upd (f := los) true ht0 (show l[q].Tx < (12 : Nat) by omega)
      have hu2 := fun v => tab_upd (f := pg) v hi0 (show l[q].Item < (20 : Nat) by omega)
      have happ : app out [(⟨1, l[q].Tx, l[q].Item, (pg l[q].Item).Value_, l[q].Old⟩ : TRec)] = some (out ++ [(⟨1, l[q].Tx, l[q].Item, (pg l[q].Item).Value_, l[q].Old⟩ : TRec)]) := app_ok (by simp; omega)
      simp only [hx1, hx2, hu1, hu2, happ, hi64, bind1_some]
      exact ih _ _ _ (by simp; omega)
theorem recover_eq (l : List TRec) (hl : l.length ≤ 400) (hok : ∀ j (hj : j < l.length), Rok l[j]) (P : Int → TPage) : ∃ (out : List TRec) (pg : Int → TPage), out.length ≤ 1000 ∧ m59_redo_Recover_K1 l (tab 20 P) = some (out, tab 20 pg, 0) ∧ m61_quirref_Recover l (tab 20 P) = some (out, tab 20 pg) := by
  obtain ⟨out, pg, h1, h2, h3⟩ := backLoop l hl hok l.length (Nat.le_refl _) big (lt_big (by omega)) (fun _ => false) l (fw l P l.length) (by omega)
  refine ⟨out, pg, h1, ?_, ?_⟩
  · have h := fwOwn l hl hok P l.length 0 (by omega) big (lt_big (by omega))
    have e1 : tab 20 (fw l P 0) = tab 20 P := tab_ext fun it _ _ => by simp [fw, luN]
    have e2 : tab 12 (ended (l.take 0)) = tab 12 (fun _ => false) := rfl
    rw [e1, e2] at h
    rw [m59_redo_Recover_K1, clone_eq l (by omega), bind1_some, tab_repl]
    rw [show ((0 : Nat) : Int) = 0 from rfl] at h
    rw [h, m59_redo_Recover_K3, show lim l = some () from if_pos (by omega), bind1_some, tab_repl]
    rw [List.take_length] at h2
    exact h2
  · have h := fwRef l hl P 20 0 (by omega) big (lt_big (by omega))
    have e1 : tab 20 (fun it => if it < ((0 : Nat) : Int) then fw l P l.length it else P it) = tab 20 P := tab_ext fun it h0 _ => by rw [if_neg (by omega)]
    rw [e1, show ((0 : Nat) : Int) = 0 from rfl] at h
    rw [m61_quirref_Recover, h, m61_quirref_Recover_K1, clone_eq l (by omega), bind1_some, i64_ok (by omega) (by omega), bind1_some, tab_repl]
    exact h3
theorem recsLoop (a : List TRec) (hl : a.length ≤ 1000000) : ∀ (r i : Nat), i + r = a.length → ∀ n, r < n → m63_api_Rec_L1 a a n (i : Int) = some true := by
  intro r
  induction r with
  | zero =>
    intro i hi n hn
    obtain ⟨n, rfl⟩ := dec n hn
    rw [m63_api_Rec_L1, m63_api_Rec_L1B, if_neg (by omega)]
    rfl
  | succ r ih =>
    intro i hi n hn
    obtain ⟨n, rfl⟩ := dec n (by omega)
    have h1 : i < a.length := by omega
    rw [m63_api_Rec_L1, m63_api_Rec_L1B, if_pos (by omega), idx_ok h1, bind1_some, bind1_some, if_neg (by simp), isucc i (by omega), bind1_some, ih (i + 1) (by omega) n (by omega)]
theorem recs_eq (a : List TRec) (hl : a.length ≤ 1000000) : m63_api_Rec a a = some true := by
  rw [m63_api_Rec, if_neg (by simp), m63_api_Rec_K1]
  exact recsLoop a hl a.length 0 (by omega) big (lt_big (by omega))
theorem redo_true (l : List TRec) (a1 : List Int) (a2 : List TPage) (h1 : a1.length = 20) (h2 : a2.length = 20) : m10_quirlaw_RedoSays l a1 a2 = some true := by
  obtain ⟨e, g1, g2, g3⟩ := log_eq l
  have hz : (List.replicate 20 (⟨0, 0⟩ : TPage)).length = 20 := by simp
  rw [m10_quirlaw_RedoSays, g1, bind1_some, arrN_ok h1, bind1_some, m58_redo_Pages, m59_redo_Recover, g2]
  simp only [bind1_some, arrN_ok hz]
  by_cases c : e = 0
  · obtain ⟨hl, hok⟩ := g3 c
    rw [list_tab 0 h1, list_tab zp h2]
    obtain ⟨out, pg, k1, k2, k3⟩ := recover_eq l hl hok (fun i => (a2[i.toNat]?).getD zp)
    have p1 := pagesOwn l hl hok (fun i => (a1[i.toNat]?).getD 0) l.length 0 (by omega) big (lt_big (by omega))
    have p2 := pagesRef l hl (fun i => (a1[i.toNat]?).getD 0) 20 0 (by omega) big (lt_big (by omega))
    have e0 : tab 20 (pgs l (fun i => (a1[i.toNat]?).getD 0) 0) = tab 20 (fun _ => zp) := tab_ext fun it _ _ => by simp [pgs, luN]
    have e1 : tab 20 (fun it => if it < ((0 : Nat) : Int) then pgs l (fun i => (a1[i.toNat]?).getD 0) l.length it else zp) = tab 20 (fun _ => zp) := tab_ext fun it h0 _ => by rw [if_neg (by omega)]
    rw [e0, show ((0 : Nat) : Int) = 0 from rfl] at p1
    rw [e1, show ((0 : Nat) : Int) = 0 from rfl] at p2
    rw [if_neg (by simpa using c), if_neg (by simpa using c), m58_redo_Pages_K1, tab_repl, p1]
    simp only [bind2_some, bind1_some, arrN_ok (tab_length 20 _)]
    rw [k2]
    simp only [bind3_some, bind1_some, arrN_ok (tab_length 20 _)]
    rw [if_neg (by simp), m10_quirlaw_RedoSays_K1, if_neg (by simpa using c), m10_quirlaw_RedoSays_K2, arrN_ok (tab_length 20 _), bind1_some, k3]
    simp only [bind2_some, bind1_some, arrN_ok (tab_length 20 _)]
    rw [m62_quirref_Pages, tab_repl, p2]
    simp only [bind1_some, arrN_ok (tab_length 20 _)]
    rw [if_pos trivial, if_pos trivial, recs_eq out (by omega)]
    simp
  · rw [if_pos c, if_pos c]
    simp only [bind2_some, bind3_some, bind1_some, arrN_ok hz, arrN_ok h2]
    rw [if_neg (by simp), m10_quirlaw_RedoSays_K1, if_pos c]
    simp only [bind1_some, arrN_ok hz]
    simp [m10_quirlaw_RedoSays_K3, m10_quirlaw_RedoSays_K4, arrN_ok hz]
    rfl
end Go.Proofs.Ytfmgjigdebofaaa
