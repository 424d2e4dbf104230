/-
  What hangs on what in a story: the models of both answer alike.
  Conditions: the reads of each tale are at most 1048576.
-/
import Derived.Test.YtkhlapdkomnldaaOsC
import Derived.Test.YtkhlapdkomnldaaOsO
namespace Go.Proofs.Ytkhlapdkomnldaa
open Go.S Go.Sort
set_option linter.unusedVariables false
set_option linter.unusedSimpArgs false

/-! ### Lists in order -/
theorem ahd_irr (x : TDep) : ¬ahd x x := by unfold ahd; omega
theorem ahd_trans {x y z : TDep} (h1 : ahd x y) (h2 : ahd y z) : ahd x z := by unfold ahd at *; omega
theorem ahd_tri {x y : TDep} (h1 : ¬ahd x y) (h2 : ¬ahd y x) : x = y := by
  unfold ahd at *
  cases x; cases y
  simp only at *
  congr <;> omega
theorem sorted_one : ∀ (l m : List TDep), l.Pairwise ahd → m.Pairwise ahd → (∀ x, x ∈ l ↔ x ∈ m) → l = m
  | [], m, _, _, h => by
    cases m with
    | nil => rfl
    | cons y m => have := (h y).2 (by simp); cases this
  | x :: l, m, hl, hm, h => by
    cases m with
    | nil => have := (h x).1 (by simp); cases this
    | cons y m =>
      rw [List.pairwise_cons] at hl hm
      have hxy : x = y := by
        refine ahd_tri (fun hlt => ?_) (fun hlt => ?_)
        · have := (h x).1 (by simp)
          rcases List.mem_cons.1 this with e | e
          · rw [e] at hlt; exact ahd_irr _ hlt
          · exact ahd_irr _ (ahd_trans hlt (hm.1 x e))
        · have := (h y).2 (by simp)
          rcases List.mem_cons.1 this with e | e
          · rw [e] at hlt; exact ahd_irr _ hlt
          · exact ahd_irr _ (ahd_trans hlt (hl.1 y e))
      subst hxy
      rw [sorted_one l m hl.2 hm.2 fun z => ?_]
      constructor
      · intro hz
        rcases List.mem_cons.1 ((h z).1 (by simp [hz])) with e | e
        · exact absurd (hl.1 z hz) (by rw [e]; exact ahd_irr _)
        · exact e
      · intro hz
        rcases List.mem_cons.1 ((h z).2 (by simp [hz])) with e | e
        · exact absurd (hm.1 z hz) (by rw [e]; exact ahd_irr _)
        · exact e
/-- Each run of equals once. -/
def dd : TDep → List TDep → List TDep
  | _, [] => []
  | a, b :: r => if b = a then dd a r else b :: dd b r
def cmpct : List TDep → List TDep
  | [] => []
  | a :: r => a :: dd a r
theorem dd_mem {x : TDep} : ∀ (a : TDep) (l : List TDep), x ∈ a :: dd a l ↔ x ∈ a :: l
  | a, [] => by simp [dd]
  | a, b :: r => by
    rw [dd]
    by_cases c : b = a
    · rw [if_pos c, dd_mem a r, c]; simp
    · rw [if_neg c]
      have := dd_mem (x := x) b r
      constructor
      · intro h
        rcases List.mem_cons.1 h with e | e
        · simp [e]
        · exact List.mem_cons_of_mem _ (this.1 e)
      · intro h
        rcases List.mem_cons.1 h with e | e
        · simp [e]
        · exact List.mem_cons_of_mem _ (this.2 e)
theorem cmpct_mem {x : TDep} (l : List TDep) : x ∈ cmpct l ↔ x ∈ l := by
  cases l with
  | nil => rfl
  | cons a r => exact dd_mem a r
theorem dd_sorted : ∀ (a : TDep) (l : List TDep), (a :: l).Pairwise (fun x y => ¬ahd y x) → (a :: dd a l).Pairwise ahd
  | a, [], _ => by simp [dd]
  | a, b :: r, h => by
    rw [dd]
    have h' := List.pairwise_cons.1 h
    by_cases c : b = a
    · rw [if_pos c]
      refine dd_sorted a r (List.pairwise_cons.2 ⟨fun y hy => h'.1 y (by simp [hy]), (List.pairwise_cons.1 h'.2).2⟩)
    · rw [if_neg c]
      have ih := dd_sorted b r h'.2
      have hab : ahd a b := by
        by_cases q : ahd a b
        · exact q
        · exact absurd (ahd_tri q (h'.1 b (by simp))).symm c
      refine List.pairwise_cons.2 ⟨fun y hy => ?_, ih⟩
      rcases List.mem_cons.1 hy with e | e
      · rw [e]; exact hab
      · exact ahd_trans hab ((List.pairwise_cons.1 ih).1 y e)
theorem cmpct_sorted {l : List TDep} (h : l.Pairwise (fun x y => ¬ahd y x)) : (cmpct l).Pairwise ahd := by
  cases l with
  | nil => exact List.Pairwise.nil
  | cons a r => exact dd_sorted a r h
theorem srt_sorted (l : List TDep) : (srtF cfDep l).Pairwise (fun x y => ¬ahd y x) := by
  have h := List.pairwise_mergeSort (le := fun x y => !(Go.Proofs.ltOf cfDep) y x) (fun a b c h1 h2 => by
    simp only [lt59, Bool.not_eq_true', decide_eq_false_iff_not] at *
    unfold ahd at *; omega) (fun a b => by
    simp only [lt59, Bool.or_eq_true, Bool.not_eq_true', decide_eq_false_iff_not]
    unfold ahd at *; omega) l
  refine h.imp fun {a b} h => ?_
  simpa [lt59] using h

/-! ### The compaction -/
theorem compL2 (l3 : List TDep) (hl : l3.length ≤ 100000000) (i : Nat) : ∀ (r q : Nat), i + q + r = l3.length → 1 ≤ q → ∀ (g : List TDep) (k : Nat), k < i + q → g.length = l3.length → g.drop (i + q - 1) = l3.drop (i + q - 1) → (∀ h : i + q - 1 < l3.length, g.take k ++ dd l3[i + q - 1] (l3.drop (i + q)) = cmpct l3) → ∀ n, r < n →
    m19_order_Deps_L2 (i : Int) n g (k : Int) (q : Int) = some (cmpct l3, 0) := by
  intro r
  induction r with
  | zero =>
    intro q hq hq1 g k hk hg hgd hc n hn
    obtain ⟨n, rfl⟩ := dec n hn
    have h1 := hc (by omega)
    rw [List.drop_eq_nil_of_le (by omega), dd, List.append_nil] at h1
    have hlt : (g.take k).length = k := by rw [List.length_take]; omega
    rw [m19_order_Deps_L2, m19_order_Deps_L2B, cut_drop g i (by omega), bind1_some, if_neg (by rw [List.length_drop]; omega), m19_order_Deps_K9, cut_drop g k (by omega), bind1_some, clr_ok g k _ (by omega), bind1_some, cut_take _ k (by rw [List.length_append]; omega), bind1_some, List.take_left' hlt, m19_order_Deps_K4, h1]
  | succ r ih =>
    intro q hq hq1 g k hk hg hgd hc n hn
    obtain ⟨n, rfl⟩ := dec n (by omega)
    have hp : i + q - 1 < l3.length := by omega
    have hp1 : i + q < l3.length := by omega
    obtain ⟨e1, e2⟩ : g[i + q - 1]'(by omega) = l3[i + q - 1] ∧ g.drop (i + q - 1 + 1) = l3.drop (i + q - 1 + 1) := by
      have hd := hgd
      rw [List.drop_eq_getElem_cons (show i + q - 1 < g.length by omega), List.drop_eq_getElem_cons hp] at hd
      injection hd with h1 h2
      exact ⟨h1, h2⟩
    rw [show i + q - 1 + 1 = i + q by omega] at e2
    have e3 : g[i + q]'(by omega) = l3[i + q] := by
      have hd := e2
      rw [List.drop_eq_getElem_cons (show i + q < g.length by omega), List.drop_eq_getElem_cons hp1] at hd
      injection hd with h1 h2
    have i1 : idx (g.drop i) (q : Int) = some l3[i + q] := by rw [idx_nat, List.getElem?_drop, List.getElem?_eq_getElem (by omega), e3]
    have i2 : idx (g.drop i) ((q - 1 : Nat) : Int) = some l3[i + q - 1] := by rw [idx_nat, List.getElem?_drop, show i + (q - 1) = i + q - 1 by omega, List.getElem?_eq_getElem (by omega), e1]
    have h1 := hc hp
    rw [drop_cons hp1, dd] at h1
    rw [m19_order_Deps_L2, m19_order_Deps_L2B, cut_drop g i (by omega), bind1_some, if_pos (by rw [List.length_drop]; omega), m19_order_Deps_K10, cut_drop g i (by omega), bind1_some, i1, bind1_some, ipred q (by omega) (by omega), bind1_some, i2, bind1_some]
    by_cases c : l3[i + q] = l3[i + q - 1]
    · rw [if_neg (by simp [c]), isucc q (by omega), bind1_some]
      rw [if_pos c] at h1
      refine ih (q + 1) (by omega) (by omega) g k (by omega) hg (by rw [show i + (q + 1) - 1 = i + q by omega]; exact e2) (fun h => ?_) n (by omega)
      rw [← h1]
      simp only [show i + (q + 1) = i + q + 1 by omega, Nat.add_sub_cancel, c]
    · have hkl : k < g.length := by omega
      rw [if_pos c, bind1_some, idx_ok hkl, bind1_some, upd_ok _ hkl, bind1_some, isucc k (by omega), bind1_some, isucc q (by omega), bind1_some]
      rw [if_neg c] at h1
      refine ih (q + 1) (by omega) (by omega) _ (k + 1) (by omega) (by simpa using hg) ?_ (fun h => ?_) n (by omega)
      · rw [show i + (q + 1) - 1 = i + q by omega, List.drop_set_of_lt (by omega)]; exact e2
      · rw [take_snoc (by simpa using hkl), List.getElem_set_self, List.take_set_of_le (Nat.le_refl _), ← h1]
        simp only [show i + (q + 1) = i + q + 1 by omega, Nat.add_sub_cancel, List.append_assoc, List.singleton_append]
theorem compL1 (l3 : List TDep) (hl : l3.length ≤ 100000000) : ∀ (r i : Nat), i + r = l3.length → 1 ≤ i → (∀ h : i - 1 < l3.length, l3.take i ++ dd l3[i - 1] (l3.drop i) = cmpct l3) → ∀ n, r < n → m19_order_Deps_L1 l3 n (i : Int) = some (cmpct l3, 0) := by
  intro r
  induction r with
  | zero =>
    intro i hi hi1 hc n hn
    obtain ⟨n, rfl⟩ := dec n hn
    have h1 := hc (by omega)
    rw [List.drop_eq_nil_of_le (by omega), dd, List.append_nil, List.take_of_length_le (by omega)] at h1
    rw [m19_order_Deps_L1, m19_order_Deps_L1B, if_neg (by omega), m19_order_Deps_K6, m19_order_Deps_K4, ← h1]
  | succ r ih =>
    intro i hi hi1 hc n hn
    obtain ⟨n, rfl⟩ := dec n (by omega)
    have hp : i - 1 < l3.length := by omega
    have hil : i < l3.length := by omega
    have h1 := hc hp
    rw [drop_cons hil, dd] at h1
    rw [m19_order_Deps_L1, m19_order_Deps_L1B, if_pos (by omega), m19_order_Deps_K7, idx_ok hil, bind1_some, ipred i (by omega) (by omega), bind1_some, idx_ok hp, bind1_some]
    by_cases c : l3[i] = l3[i - 1]
    · rw [if_pos c] at h1
      rw [if_pos c, cut_drop l3 i (by omega), bind1_some]
      have h2 := compL2 l3 hl i r 1 (by omega) (Nat.le_refl _) l3 i (by omega) rfl rfl (fun h => by
        rw [← h1]
        simp only [show i + 1 - 1 = i by omega, c]) big (lt_big (by omega))
      rw [show ((1 : Nat) : Int) = 1 from rfl] at h2
      exact h2
    · rw [if_neg c] at h1
      rw [if_neg c, m19_order_Deps_K8, isucc i (by omega), bind1_some]
      refine ih (i + 1) (by omega) (by omega) (fun h => ?_) n (by omega)
      rw [take_snoc hil, ← h1, List.append_assoc]
      rfl
theorem compK3 (l : List TDep) (hl : l.length ≤ 100000000) : m19_order_Deps_K3 l = some (cmpct (srtF cfDep l), 0) := by
  have hlen := srtF_length cfDep l
  have hx : xSortF cfDep l = some (srtF cfDep l) := if_pos (by omega)
  rw [m19_order_Deps_K3, cf59, hx, bind1_some]
  generalize srtF cfDep l = l3 at hlen
  by_cases c : (l3.length : Int) < 2
  · rw [if_pos c, m19_order_Deps_K4]
    congr 1
    match l3, c with
    | [], _ => rfl
    | [a], _ => rfl
    | a :: b :: r, c => simp at c; omega
  · rw [if_neg c, m19_order_Deps_K5]
    have h := compL1 l3 (by omega) (l3.length - 1) 1 (by omega) (Nat.le_refl _) (fun h => by
      cases l3 with
      | nil => simp at h
      | cons a r => rfl) big (lt_big (by omega))
    rw [show ((1 : Nat) : Int) = 1 from rfl] at h
    exact h

/-! ### What is added -/
def addD (f t k : Int) : List TDep := if f ≠ t ∧ 0 ≤ f then [⟨f, t, k⟩] else []
theorem addD_len (f t k : Int) : (addD f t k).length ≤ 1 := by unfold addD; split <;> simp
def prs : List Int → List TDep
  | a :: b :: r => addD a b 1 ++ prs (b :: r)
  | _ => []
theorem prs_len : ∀ l : List Int, (prs l).length ≤ l.length
  | [] => by simp [prs]
  | [a] => by simp [prs]
  | a :: b :: r => by
    have h1 := prs_len (b :: r)
    have h2 := addD_len a b 1
    rw [prs, List.length_append, List.length_cons]
    omega
def rdeps (s : TStory) (t : TTale) (g : TGot) : List TDep := addD g.From t.Tx 2 ++ match idx s.Versions g.Item with
  | some l => match idx l (fi g.From 0 l + 1) with
    | some b => addD t.Tx b 3
    | none => []
  | none => []
theorem rdeps_len (s : TStory) (t : TTale) (g : TGot) : (rdeps s t g).length ≤ 2 := by
  unfold rdeps
  have h1 := addD_len g.From t.Tx 2
  rw [List.length_append]
  split
  · split
    · have := addD_len t.Tx (by assumption) 3
      omega
    · simp; omega
  · simp; omega
theorem prsL6 (l : List Int) (hl : l.length ≤ 1048576) (gx29 : Int) (go5 : Int → List TDep → Option (List TDep × Int)) : ∀ (r i : Nat), i + r = l.length → 1 ≤ i → ∀ acc : List TDep, acc.length + r ≤ 100000000 → ∀ n, r < n →
    m19_order_Deps_L6 l gx29 go5 n (i : Int) acc = m19_order_Deps_K14 gx29 go5 (acc ++ prs (l.drop (i - 1))) := by
  intro r
  induction r with
  | zero =>
    intro i hi hi1 acc hacc n hn
    obtain ⟨n, rfl⟩ := dec n hn
    have : prs (l.drop (i - 1)) = [] := by
      have h1 : i - 1 < l.length ∨ l.length ≤ i - 1 := by omega
      rcases h1 with h1 | h1
      · rw [drop_cons h1, List.drop_eq_nil_of_le (by omega)]; rfl
      · rw [List.drop_eq_nil_of_le h1]; rfl
    rw [m19_order_Deps_L6, m19_order_Deps_L6B, if_neg (by omega), this, List.append_nil]
  | succ r ih =>
    intro i hi hi1 acc hacc n hn
    obtain ⟨n, rfl⟩ := dec n (by omega)
    have hp : i - 1 < l.length := by omega
    have hil : i < l.length := by omega
    have hd : l.drop (i - 1) = l[i - 1] :: l[i] :: l.drop (i + 1) := by
      rw [drop_cons hp]
      congr 1
      simp only [show i - 1 + 1 = i by omega]
      exact drop_cons hil
    have hd2 : l.drop i = l[i] :: l.drop (i + 1) := drop_cons hil
    have hno : (addD l[i - 1] l[i] 1) = [] → m19_order_Deps_K16 (i : Int) (m19_order_Deps_L6 l gx29 go5 n) acc = m19_order_Deps_K14 gx29 go5 (acc ++ (addD l[i - 1] l[i] 1 ++ prs (l[i] :: l.drop (i + 1)))) := by
      intro h
      rw [m19_order_Deps_K16, isucc i (by omega), bind1_some, ih (i + 1) (by omega) (by omega) acc (by omega) n (by omega), h, List.nil_append, show i + 1 - 1 = i by omega, hd2]
    rw [m19_order_Deps_L6, m19_order_Deps_L6B, if_pos (by omega), m19_order_Deps_K15, ipred i (by omega) (by omega), bind1_some, idx_ok hp, bind1_some, idx_ok hil, bind1_some, hd, prs]
    by_cases c1 : l[i - 1] ≠ l[i]
    · rw [if_pos c1]
      by_cases c2 : 0 ≤ l[i - 1]
      · have ha : addD l[i - 1] l[i] 1 = [⟨l[i - 1], l[i], 1⟩] := if_pos ⟨c1, c2⟩
        rw [if_pos c2, app_ok (by simp; omega), bind1_some, m19_order_Deps_K16, isucc i (by omega), bind1_some, ih (i + 1) (by omega) (by omega) _ (by simp; omega) n (by omega), ha, show i + 1 - 1 = i by omega, hd2, List.append_assoc]
      · rw [if_neg c2]; exact hno (if_neg fun h => c2 h.2)
    · rw [if_neg c1]; exact hno (if_neg fun h => c1 h.1)
theorem verL5 (s : TStory) (hlim : Lim s) (hv : s.Versions.length ≤ 20) : ∀ (r i : Nat), i + r = s.Versions.length → ∀ acc : List TDep, acc.length ≤ i * 1048576 → ∀ n, r < n →
    m19_order_Deps_L5 s n (i : Int) acc = m19_order_Deps_K2 s (acc ++ (s.Versions.drop i).flatMap prs) := by
  intro r
  induction r with
  | zero =>
    intro i hi acc hacc n hn
    obtain ⟨n, rfl⟩ := dec n hn
    rw [m19_order_Deps_L5, m19_order_Deps_L5B, if_neg (by omega), List.drop_eq_nil_of_le (by omega)]
    simp
  | succ r ih =>
    intro i hi acc hacc n hn
    obtain ⟨n, rfl⟩ := dec n (by omega)
    have hil : i < s.Versions.length := by omega
    have hll := hlim.vs _ (List.getElem_mem hil)
    have hpl := prs_len s.Versions[i]
    have h20 : i * 1048576 ≤ 20 * 1048576 := Nat.mul_le_mul_right _ (by omega)
    rw [m19_order_Deps_L5, m19_order_Deps_L5B, if_pos (by omega), idx_ok hil, bind1_some, drop_cons hil, List.flatMap_cons]
    by_cases c : s.Versions[i].length = 0
    · have hnil : s.Versions[i] = [] := List.eq_nil_of_length_eq_zero c
      have h0 : m19_order_Deps_L6 ([] : List Int) (i : Int) (m19_order_Deps_L5 s n) big 1 acc = m19_order_Deps_K14 (i : Int) (m19_order_Deps_L5 s n) acc := by
        obtain ⟨q, hq⟩ := dec big (lt_big (by omega))
        rw [hq, m19_order_Deps_L6, m19_order_Deps_L6B, if_neg (show ¬((1 : Int) < (([] : List Int).length : Int)) by decide)]
      rw [hnil, h0, m19_order_Deps_K14, isucc i (by omega), bind1_some, ih (i + 1) (by omega) acc (Nat.le_trans hacc (Nat.mul_le_mul_right _ (Nat.le_succ i))) n (by omega)]
      rfl
    · have h2 := prsL6 s.Versions[i] hll (i : Int) (m19_order_Deps_L5 s n) (s.Versions[i].length - 1) 1 (by omega) (Nat.le_refl _) acc (by omega) big (lt_big (by omega))
      rw [show ((1 : Nat) : Int) = 1 from rfl, Nat.sub_self, List.drop_zero] at h2
      rw [h2, m19_order_Deps_K14, isucc i (by omega), bind1_some, ih (i + 1) (by omega) _ (by rw [List.length_append, Nat.succ_mul]; omega) n (by omega), List.append_assoc]
theorem rdK12 (s : TStory) (hlim : Lim s) (t : TTale) (ht : t ∈ s.Tales) (g : TGot) (hok : GotOk s t g) (gx18 : Int) (go4 : Int → List TDep → Option (List TDep × Int)) (acc : List TDep) (hacc : acc.length ≤ 100000000) (x50 : Int) (hx : i64 (gx18 + 1) = some x50) :
    m19_order_Deps_K12 s g t gx18 go4 acc = go4 x50 (acc ++ match idx s.Versions g.Item with
      | some l => match idx l (fi g.From 0 l + 1) with
        | some b => addD t.Tx b 3
        | none => []
      | none => []) := by
  obtain ⟨q, hq⟩ := Int.eq_ofNat_of_zero_le hok.i0
  have hql : q < s.Versions.length := by have := hok.i1; omega
  have hll := hlim.vs _ (List.getElem_mem hql)
  rw [m19_order_Deps_K12, hq, idx_ok hql, bind1_some, index_eq _ _ (by omega), bind1_some]
  generalize hl : s.Versions[q] = l at hll
  have hf : ∃ f : Nat, fi g.From 0 l + 1 = (f : Int) ∧ f ≤ l.length := by
    rcases fi_spec g.From l 0 with ⟨h1, h2⟩ | ⟨j, h1, h2, _⟩
    · exact ⟨0, by omega, by omega⟩
    · exact ⟨j + 1, by omega, (List.getElem?_eq_some_iff.1 h2).1⟩
  obtain ⟨f, hf, hfl⟩ := hf
  dsimp only
  rw [hf, i64_ok (by omega) (by omega), bind1_some]
  simp only [idx_nat]
  by_cases c : f < l.length
  · rw [if_pos (by omega), List.getElem?_eq_getElem c, bind1_some]
    show _ = go4 x50 (acc ++ addD t.Tx l[f] 3)
    by_cases c1 : t.Tx ≠ l[f]
    · rw [if_pos c1]
      by_cases c2 : 0 ≤ t.Tx
      · have ha : addD t.Tx l[f] 3 = [⟨t.Tx, l[f], 3⟩] := if_pos ⟨c1, c2⟩
        rw [if_pos c2, app_ok (by simp; omega), bind1_some, m19_order_Deps_K13, hx, bind1_some, ha]
      · have ha : addD t.Tx l[f] 3 = [] := if_neg fun h => c2 h.2
        rw [if_neg c2, m19_order_Deps_K13, hx, bind1_some, ha, List.append_nil]
    · have ha : addD t.Tx l[f] 3 = [] := if_neg fun h => c1 h.1
      rw [if_neg c1, m19_order_Deps_K13, hx, bind1_some, ha, List.append_nil]
  · rw [if_neg (by omega), List.getElem?_eq_none (by omega), hx, bind1_some]
    show _ = go4 x50 (acc ++ [])
    rw [List.append_nil]
theorem rdL4 (s : TStory) (hlim : Lim s) (t : TTale) (ht : t ∈ s.Tales) (hok : ∀ g ∈ t.Reads, GotOk s t g) (gx13 : Int) (go3 : Int → List TDep → Option (List TDep × Int)) : ∀ (r j : Nat), j + r = t.Reads.length → ∀ acc : List TDep, acc.length + 2 * r ≤ 100000000 → ∀ n, r < n →
    m19_order_Deps_L4 t s gx13 go3 n (j : Int) acc = m19_order_Deps_K11 gx13 go3 (acc ++ (t.Reads.drop j).flatMap (rdeps s t)) := by
  have hrl := hlim.rd t ht
  intro r
  induction r with
  | zero =>
    intro j hj acc hacc n hn
    obtain ⟨n, rfl⟩ := dec n hn
    rw [m19_order_Deps_L4, m19_order_Deps_L4B, if_neg (by omega), List.drop_eq_nil_of_le (by omega)]
    simp
  | succ r ih =>
    intro j hj acc hacc n hn
    obtain ⟨n, rfl⟩ := dec n (by omega)
    have hjl : j < t.Reads.length := by omega
    have hg := hok _ (List.getElem_mem hjl)
    rw [m19_order_Deps_L4, m19_order_Deps_L4B, if_pos (by omega), idx_ok hjl, bind1_some, drop_cons hjl, List.flatMap_cons]
    generalize t.Reads[j] = g at hg
    have hgo : ∀ a2 : List TDep, a2 = acc ++ addD g.From t.Tx 2 → m19_order_Deps_K12 s g t (j : Int) (m19_order_Deps_L4 t s gx13 go3 n) a2 = m19_order_Deps_K11 gx13 go3 (acc ++ (rdeps s t g ++ (t.Reads.drop (j + 1)).flatMap (rdeps s t))) := by
      rintro a2 rfl
      have h1 := addD_len g.From t.Tx 2
      have h2 := rdeps_len s t g
      rw [rdK12 s hlim t ht g hg (j : Int) _ _ (by rw [List.length_append]; omega) _ (isucc j (by omega))]
      have h3 := ih (j + 1) (by omega) (acc ++ rdeps s t g) (by rw [List.length_append]; omega) n (by omega)
      refine Eq.trans ?_ (h3.trans ?_)
      · rw [List.append_assoc]; rfl
      · rw [List.append_assoc]
    by_cases c1 : g.From ≠ t.Tx
    · rw [if_pos c1]
      by_cases c2 : 0 ≤ g.From
      · rw [if_pos c2, app_ok (by simp; omega), bind1_some]
        exact hgo _ (by rw [show addD g.From t.Tx 2 = [⟨g.From, t.Tx, 2⟩] from if_pos ⟨c1, c2⟩])
      · rw [if_neg c2]
        exact hgo _ (by rw [show addD g.From t.Tx 2 = [] from if_neg fun h => c2 h.2, List.append_nil])
    · rw [if_neg c1]
      exact hgo _ (by rw [show addD g.From t.Tx 2 = [] from if_neg fun h => c1 h.1, List.append_nil])
theorem flat2 {α β : Type} (f : α → List β) (c : Nat) : ∀ l : List α, (∀ x, (f x).length ≤ c) → (l.flatMap f).length ≤ c * l.length
  | [], _ => by simp
  | x :: l, h => by
    have h1 := flat2 f c l h
    have h2 := h x
    rw [List.flatMap_cons, List.length_append, List.length_cons, Nat.mul_succ]
    omega
theorem taleL3 (s : TStory) (hg : GoodS s) (hlim : Lim s) : ∀ (r i : Nat), i + r = s.Tales.length → ∀ acc : List TDep, acc.length ≤ 20971520 + i * 2097152 → ∀ n, r < n →
    m19_order_Deps_L3 s n (i : Int) acc = m19_order_Deps_K3 (acc ++ (s.Tales.drop i).flatMap fun t => t.Reads.flatMap (rdeps s t)) := by
  have hnt := hg.nt
  intro r
  induction r with
  | zero =>
    intro i hi acc hacc n hn
    obtain ⟨n, rfl⟩ := dec n hn
    rw [m19_order_Deps_L3, m19_order_Deps_L3B, if_neg (by omega), List.drop_eq_nil_of_le (by omega)]
    simp
  | succ r ih =>
    intro i hi acc hacc n hn
    obtain ⟨n, rfl⟩ := dec n (by omega)
    have hil : i < s.Tales.length := by omega
    have hmem := List.getElem_mem hil
    have hrl := hlim.rd _ hmem
    have h12 : i * 2097152 ≤ 12 * 2097152 := Nat.mul_le_mul_right _ (by omega)
    have h2 := rdL4 s hlim s.Tales[i] hmem (hg.got _ hmem) (i : Int) (m19_order_Deps_L3 s n) s.Tales[i].Reads.length 0 (by omega) acc (by omega) big (lt_big (by omega))
    have h3 := flat2 (rdeps s s.Tales[i]) 2 s.Tales[i].Reads (rdeps_len s s.Tales[i])
    rw [show ((0 : Nat) : Int) = 0 from rfl, List.drop_zero] at h2
    rw [m19_order_Deps_L3, m19_order_Deps_L3B, if_pos (by omega), idx_ok hil, bind1_some, drop_cons hil, List.flatMap_cons, h2, m19_order_Deps_K11, isucc i (by omega), bind1_some, ih (i + 1) (by omega) _ (by rw [List.length_append]; omega) n (by omega), List.append_assoc]
/-- What is added, all of it. -/
def allD (s : TStory) : List TDep := s.Versions.flatMap prs ++ s.Tales.flatMap fun t => t.Reads.flatMap (rdeps s t)
theorem deps_own (s : TStory) (hg : GoodS s) (hlim : Lim s) : m19_order_Deps_K1 s = some (cmpct (srtF cfDep (allD s)), 0) := by
  have hnv := hg.nv
  have hnt := hg.nt
  have h1 := verL5 s hlim hnv s.Versions.length 0 (by omega) [] (by simp) big (lt_big (by omega))
  have hvl : ∀ l : List (List Int), (∀ x ∈ l, x.length ≤ 1048576) → (l.flatMap prs).length ≤ 1048576 * l.length := by
    intro l
    induction l with
    | nil => simp
    | cons x l ih =>
      intro h
      have q1 := ih fun y hy => h y (by simp [hy])
      have q2 := prs_len x
      have q3 := h x (by simp)
      rw [List.flatMap_cons, List.length_append, List.length_cons, Nat.mul_succ]
      omega
  have hv := hvl s.Versions hlim.vs
  have hv2 : 1048576 * s.Versions.length ≤ 1048576 * 20 := Nat.mul_le_mul_left _ hnv
  have h2 := taleL3 s hg hlim s.Tales.length 0 (by omega) (s.Versions.flatMap prs) (by omega) big (lt_big (by omega))
  have htl : ∀ l : List TTale, (∀ x ∈ l, x.Reads.length ≤ 1048576) → (l.flatMap fun t => t.Reads.flatMap (rdeps s t)).length ≤ 2097152 * l.length := by
    intro l
    induction l with
    | nil => simp
    | cons x l ih =>
      intro h
      have q1 := ih fun y hy => h y (by simp [hy])
      have q2 := flat2 (rdeps s x) 2 x.Reads (rdeps_len s x)
      have q3 := h x (by simp)
      rw [List.flatMap_cons, List.length_append, List.length_cons, Nat.mul_succ]
      omega
  have ht := htl s.Tales hlim.rd
  have ht2 : 2097152 * s.Tales.length ≤ 2097152 * 12 := Nat.mul_le_mul_left _ hnt
  rw [show ((0 : Nat) : Int) = 0 from rfl, List.drop_zero] at h1 h2
  rw [List.nil_append] at h1
  rw [m19_order_Deps_K1, h1, m19_order_Deps_K2, h2, compK3 _ (by rw [List.length_append]; omega)]
  rfl
end Go.Proofs.Ytkhlapdkomnldaa
