/-
  Package lock: which tables are right.
  Conditions: none.
-/
import Derived.Test.YtgkdimboofglfaaLkA
namespace Go.Proofs.Ytgkdimboofglfaa
open Go.S
set_option linter.unusedVariables false
set_option linter.unusedSimpArgs false
def lvB (a : TLock) : Bool := decide (0 ≤ a.Tx) && decide (a.Tx ≤ 11) && decide (Md a.Mode)
theorem lv_iff (a : TLock) : lvB a = true ↔ 0 ≤ a.Tx ∧ a.Tx ≤ 11 ∧ Md a.Mode := by simp [lvB, and_assoc]
/-- Right locks, each of another transaction, behind these. -/
def okS : List TLock → List TLock → Bool
  | _, [] => true
  | p, a :: l => lvB a && !hasTx p a.Tx && okS (p ++ [a]) l
def pairS : List TLock → Bool
  | [] => true
  | a :: l => (l.all fun b => fitS a.Mode b.Mode) && pairS l
def pairR : List TLock → List TLock → Bool
  | _, [] => true
  | p, a :: l => (p.all fun b => fitS a.Mode b.Mode) && pairR (p ++ [a]) l
def headS (H Q : List TLock) : Bool := match Q with
  | [] => true
  | q :: _ => !canS H q
def lineS (x : TLockItem) : Bool := okS [] x.Held && okS [] x.Queue && pairS x.Held && headS x.Held x.Queue
theorem ok_mds : ∀ (l p : List TLock), okS p l = true → Mds l
  | [], p, _ => fun h hh => by cases hh
  | a :: l, p, h => by
    simp only [okS, Bool.and_eq_true] at h
    intro z hz
    rcases List.mem_cons.1 hz with rfl | hz
    · exact ((lv_iff _).1 h.1.1).2.2
    · exact ok_mds l _ h.2 z hz
theorem pair_iff : ∀ (l : List TLock), pairS l = true ↔ l.Pairwise fun a b => fitS a.Mode b.Mode = true
  | [] => by simp [pairS]
  | a :: l => by simp [pairS, pair_iff l]
theorem pairR_iff : ∀ (l p : List TLock), pairR p l = true ↔ (∀ a ∈ l, ∀ b ∈ p, fitS a.Mode b.Mode = true) ∧ l.Pairwise fun a b => fitS a.Mode b.Mode = true
  | [], p => by simp [pairR]
  | a :: l, p => by
    simp only [pairR, Bool.and_eq_true, pairR_iff l, List.all_eq_true, List.mem_cons, List.pairwise_cons, List.mem_append, List.mem_singleton, List.not_mem_nil, or_false]
    constructor
    · rintro ⟨h1, h2, h3⟩
      refine ⟨fun c hc b hb => ?_, fun b hb => ?_, h3⟩
      · rcases hc with rfl | hc
        · exact h1 b hb
        · exact h2 c hc b (.inl hb)
      · rw [fit_symm]; exact h2 b hb a (.inr rfl)
    · rintro ⟨h1, h2, h3⟩
      refine ⟨h1 a (.inl rfl), fun c hc b hb => ?_, h3⟩
      rcases hb with hb | rfl
      · exact h1 c (.inr hc) b hb
      · rw [fit_symm]; exact h2 c hc
theorem pair_eq (l : List TLock) : pairR [] l = pairS l := by
  rw [Bool.eq_iff_iff, pairR_iff, pair_iff]
  simp
theorem mds_take {l : List TLock} (h : Mds l) (i : Nat) : Mds (l.take i) := fun x hx => h x (List.mem_of_mem_take hx)
theorem hasTx_snoc (p : List TLock) (a : TLock) (t : Int) : hasTx (p ++ [a]) t = (hasTx p t || decide (a.Tx = t)) := by simp [hasTx]
theorem holds_snoc {p : List TLock} (a : TLock) (t : Int) (hm : Mds p) : holdsS (p ++ [a]) t = if hasTx p t = true then holdsS p t else if a.Tx = t then a.Mode else 0 := by
  unfold holdsS hasTx
  rw [List.find?_append]
  cases h : p.find? (fun h => decide (h.Tx = t)) with
  | none =>
    have h1 : (p.any fun h => decide (h.Tx = t)) = false := by
      rw [List.any_eq_false]
      rw [List.find?_eq_none] at h
      exact h
    rw [h1]
    by_cases c : a.Tx = t <;> simp [c]
  | some x =>
    have h1 : (p.any fun h => decide (h.Tx = t)) = true := List.any_eq_true.2 ⟨x, List.mem_of_find?_eq_some h, by simpa using List.find?_some h⟩
    rw [h1]
    simp

/-! ### Walks along locks -/
theorem scan_ok {ρ : Type} {l : List TLock} {E bad : Option ρ} {σ : Type} {X : Nat → TLock → σ → Option ρ ⊕ σ} (hX : ∀ i s (h : i < l.length), (lvB l[i] && !hasTx (l.take i) l[i].Tx) = false → X i l[i] s = .inl bad)
    (hG : ∀ i s (h : i < l.length), (lvB l[i] && !hasTx (l.take i) l[i].Tx) = true → ∃ s', X i l[i] s = .inr s') : ∀ (r i : Nat), i + r = l.length → ∀ s, scanR X (fun _ => E) i (l.drop i) s = if okS (l.take i) (l.drop i) = true then E else bad := by
  intro r
  induction r with
  | zero =>
    intro i hi s
    rw [List.drop_eq_nil_of_le (by omega)]
    simp [scanR, okS]
  | succ r ih =>
    intro i hi s
    have h1 : i < l.length := by omega
    rw [drop_cons h1, scanR, okS]
    cases c : (lvB l[i] && !hasTx (l.take i) l[i].Tx) with
    | false => rw [hX i s h1 c]; simp
    | true =>
      obtain ⟨s', hs⟩ := hG i s h1 c
      rw [hs, ← take_snoc h1, Bool.true_and]
      exact ih (i + 1) (by omega) s'
theorem lock_tab (x : TLockItem) (l : List TLock) (hl : Ln l) (K : Option Int) (F : Nat → Int → List Int → Option Int)
    (hend : ∀ n s, F (n + 1) (l.length : Nat) s = K)
    (hbad : ∀ n i s (h : i < l.length), (lvB l[i] = false → F (n + 1) (i : Nat) s = some 4))
    (hgood : ∀ n i s (h : i < l.length), lvB l[i] = true → F (n + 1) (i : Nat) s = bind1 (idxA 12 s l[i].Tx) fun x13 => if 0 < x13 then some 4 else bind1 (idxA 12 s l[i].Tx) fun x15 => bind1 (upd s l[i].Tx l[i].Mode) fun l16 => bind1 (i64 ((i : Nat) + 1)) fun x17 => F n x17 l16) :
    F big 0 (List.replicate 12 (0 : Int)) = if okS [] l = true then K else some 4 := by
  let X : Nat → TLock → List Int → Option Int ⊕ List Int := fun i y s => if (lvB y && !hasTx (l.take i) y.Tx) = true then .inr (tab 12 (holdsS (l.take (i + 1)))) else .inl (some 4)
  have h := scanS0 (F := F) (l := l) hl (X := X) (E := fun _ => K) (fun i s => s = tab 12 (holdsS (l.take i)) ∧ Mds (l.take i)) (fun n s _ => hend n s) (fun n i s h hI => ?_) (fun i s s' h hI hx => ?_) (List.replicate 12 (0 : Int)) ⟨by rw [tab_repl]; rfl, fun z hz => by simp at hz⟩
  · rw [h]
    have h2 := scan_ok (X := X) (l := l) (E := K) (bad := some 4) (fun i s h hc => by simp only [X]; rw [hc]; rfl) (fun i s h hc => ⟨_, by simp only [X]; rw [hc]; rfl⟩) l.length 0 (by omega) (List.replicate 12 (0 : Int))
    simpa using h2
  · obtain ⟨rfl, hm⟩ := hI
    cases c : lvB l[i] with
    | false =>
      rw [hbad n i _ h c]
      simp [X, c]
    | true =>
      obtain ⟨h0, h1, h2⟩ := (lv_iff _).1 c
      rw [hgood n i _ h c, tab_idxA h0 (by omega), bind1_some]
      by_cases c2 : hasTx (l.take i) l[i].Tx = true
      · rw [if_pos ((holds_pos hm _).2 c2)]
        simp [X, c, c2]
      · rw [if_neg (by rw [holds_pos hm]; exact c2), bind1_some, tab_upd _ h0 (by omega), bind1_some, isucc i (by unfold Ln at hl; omega), bind1_some]
        have e : (tab 12 fun t => if t = l[i].Tx then l[i].Mode else holdsS (l.take i) t) = tab 12 (holdsS (l.take (i + 1))) := by
          refine tab_ext fun t _ _ => ?_
          rw [take_snoc h, holds_snoc _ _ hm]
          by_cases c3 : t = l[i].Tx
          · rw [if_pos c3, c3, if_neg c2, if_pos rfl]
          · rw [if_neg c3]
            by_cases c4 : hasTx (l.take i) t = true
            · rw [if_pos c4]
            · rw [if_neg c4, if_neg (fun h => c3 h.symm)]
              exact (holds_zero hm t).2 (by simpa using c4)
        rw [e]
        simp [X, c, c2]
  · obtain ⟨rfl, hm⟩ := hI
    simp only [X] at hx
    split at hx
    · rename_i hc
      simp only [Bool.and_eq_true] at hc
      refine ⟨(Sum.inr.inj hx).symm, ?_⟩
      rw [take_snoc h]
      intro z hz
      rcases List.mem_append.1 hz with hz | hz
      · exact hm z hz
      · simp only [List.mem_singleton] at hz
        subst hz
        exact ((lv_iff _).1 hc.1).2.2
    · cases hx
/-! ### line, lineErr -/
theorem head_lock (x : TLockItem) (hl : Ln x.Held) (hm : Mds x.Held) (hq : Mds x.Queue) : m34_lock_line_K3 x = some (if headS x.Held x.Queue = true then 0 else 4) := by
  rw [m34_lock_line_K3]
  unfold headS
  cases hQ : x.Queue with
  | nil => simp
  | cons q Q =>
    have h1 : idx x.Queue 0 = some q := by rw [hQ]; rfl
    rw [if_pos (by simp only [List.length_cons]; omega), ← hQ, h1, bind1_some, can_lock x q hl hm (hq q (by rw [hQ]; simp)), bind1_some]
    cases hc : canS x.Held q <;> simp [hQ, hc]
theorem head_ref (x : TLockItem) (hl : Ln x.Held) (hm : Mds x.Held) (hq : Mds x.Queue) : m17_quirref_lineErr_K2 x = some (!headS x.Held x.Queue) := by
  rw [m17_quirref_lineErr_K2]
  unfold headS
  cases hQ : x.Queue with
  | nil => simp
  | cons q Q =>
    have h1 : idx x.Queue 0 = some q := by rw [hQ]; rfl
    rw [if_pos (by simp only [List.length_cons]; omega), ← hQ, h1, bind1_some, can_ref x q hl hm (hq q (by rw [hQ]; simp)), bind1_some]
    cases hc : canS x.Held q <;> simp [hQ, hc]
theorem queue_lock (x : TLockItem) (hl : Ln x.Held) (hm : Mds x.Held) (hq : Ln x.Queue) : m34_lock_line_K2 x = some (if (okS [] x.Queue && headS x.Held x.Queue) = true then 0 else 4) := by
  rw [m34_lock_line_K2, lock_tab x x.Queue hq (m34_lock_line_K3 x) (m34_lock_line_L1 x) (fun n s => ?_) (fun n i s h hb => ?_) (fun n i s h hg => ?_)]
  · cases c : okS [] x.Queue with
    | false => simp
    | true => simp [head_lock x hl hm (ok_mds _ _ c)]
  · rw [m34_lock_line_L1, m34_lock_line_L1B, if_neg (by omega)]
  · rw [m34_lock_line_L1, m34_lock_line_L1B, if_pos (by omega), idx_ok h, bind1_some]
    by_cases c1 : x.Queue[i].Tx < 0
    · rw [if_pos c1, m34_lock_line_K4, if_pos rfl]
    · rw [if_neg c1]
      by_cases c2 : 12 ≤ x.Queue[i].Tx
      · rw [if_pos c2, m34_lock_line_K4, if_pos rfl]
      · rw [if_neg c2, m34_lock_line_K4, if_neg ff, isMode_eq, bind1_some, if_neg]
        simp only [decide_eq_true_eq]
        intro h5
        rw [← Bool.not_eq_true, lv_iff] at hb
        exact hb ⟨by omega, by omega, h5⟩
  · obtain ⟨h0, h1, h2⟩ := (lv_iff _).1 hg
    rw [m34_lock_line_L1, m34_lock_line_L1B, if_pos (by omega), idx_ok h, bind1_some, if_neg (by omega), if_neg (by omega), m34_lock_line_K4, if_neg ff, isMode_eq, bind1_some, if_pos (by simpa using h2)]
theorem pairs_lock (x : TLockItem) (hl : Ln x.Held) (hm : Mds x.Held) (hq : Ln x.Queue) : m34_lock_line_K1 x = some (if (pairS x.Held && (okS [] x.Queue && headS x.Held x.Queue)) = true then 0 else 4) := by
  have inner : ∀ (y : TLock) (L : List TLock) (i : Int) (go : Int → Option Int), Ln L → Md y.Mode → Mds L → m34_lock_line_L3 L y i go big 0 = if (L.all fun b => fitS y.Mode b.Mode) = true then m34_lock_line_K5 i go else some 4 := by
    intro y L i go hL hy hm
    rw [scan00 (F := m34_lock_line_L3 L y i go) (l := L) hL (fun _ b => if (!fitS y.Mode b.Mode) = true then some (some 4) else none) (m34_lock_line_K5 i go) (fun n => ?_) (fun n i h => ?_), scanX_any]
    · rw [← all_any]
      cases (L.any fun b => !fitS y.Mode b.Mode) <;> simp
    · rw [m34_lock_line_L3, m34_lock_line_L3B, if_neg (by omega)]
    · obtain ⟨f, z, h1, h2, h3⟩ := fits_bits hy (hm _ (List.getElem_mem h))
      rw [m34_lock_line_L3, m34_lock_line_L3B, if_pos (by omega), idx_ok h, bind1_some, h1, bind1_some, h2, bind1_some, isucc i (by unfold Ln at hL; omega), bind1_some]
      cases c2 : fitS y.Mode L[i].Mode with
      | false => rw [c2] at h3; rw [if_pos (by simpa using h3)]; simp
      | true => rw [c2] at h3; rw [if_neg (by simpa using h3)]; simp
  have key : ∀ (r i : Nat), i + r = x.Held.length → ∀ n, r < n → m34_lock_line_L2 x n (i : Nat) = some (if (pairS (x.Held.drop i) && (okS [] x.Queue && headS x.Held x.Queue)) = true then 0 else 4) := by
    intro r
    induction r with
    | zero =>
      intro i hi n hn
      obtain ⟨n, rfl⟩ := dec n hn
      rw [m34_lock_line_L2, m34_lock_line_L2B, if_neg (by omega), List.drop_eq_nil_of_le (by omega), queue_lock x hl hm hq]
      rfl
    | succ r ih =>
      intro i hi n hn
      obtain ⟨n, rfl⟩ := dec n (by omega)
      have h1 : i < x.Held.length := by omega
      have hs := isucc i (by unfold Ln at hl; omega)
      have hm' : Mds (x.Held.drop (i + 1)) := fun z hz => hm z (List.mem_of_mem_drop hz)
      rw [m34_lock_line_L2, m34_lock_line_L2B, if_pos (by omega), idx_ok h1, bind1_some, hs, bind1_some, cut_drop _ _ (by omega), bind1_some, inner _ _ _ _ (by unfold Ln at *; rw [List.length_drop]; omega) (hm _ (List.getElem_mem h1)) hm', drop_cons h1, pairS]
      cases c : ((x.Held.drop (i + 1)).all fun b => fitS x.Held[i].Mode b.Mode) with
      | false => simp
      | true => rw [if_pos rfl, m34_lock_line_K5, hs, bind1_some, ih (i + 1) (by omega) n (by omega), Bool.true_and]
  rw [m34_lock_line_K1]
  exact key x.Held.length 0 (by omega) big (lt_big (by unfold Ln at hl; omega))
theorem line_lock (x : TLockItem) (hl : Ln x.Held) (hq : Ln x.Queue) : m34_lock_line x = some (if lineS x = true then 0 else 4) := by
  rw [m34_lock_line, lock_tab x x.Held hl (m34_lock_line_K1 x) (m34_lock_line_L4 x) (fun n s => ?_) (fun n i s h hb => ?_) (fun n i s h hg => ?_)]
  · unfold lineS
    cases c : okS [] x.Held with
    | false => simp
    | true =>
      rw [if_pos rfl, pairs_lock x hl (ok_mds _ _ c) hq]
      cases okS [] x.Queue <;> cases pairS x.Held <;> simp
  · rw [m34_lock_line_L4, m34_lock_line_L4B, if_neg (by omega)]
  · rw [m34_lock_line_L4, m34_lock_line_L4B, if_pos (by omega), idx_ok h, bind1_some]
    by_cases c1 : x.Held[i].Tx < 0
    · rw [if_pos c1, m34_lock_line_K6, if_pos rfl]
    · rw [if_neg c1]
      by_cases c2 : 12 ≤ x.Held[i].Tx
      · rw [if_pos c2, m34_lock_line_K6, if_pos rfl]
      · rw [if_neg c2, m34_lock_line_K6, if_neg ff, isMode_eq, bind1_some, if_neg]
        simp only [decide_eq_true_eq]
        intro h5
        rw [← Bool.not_eq_true, lv_iff] at hb
        exact hb ⟨by omega, by omega, h5⟩
  · obtain ⟨h0, h1, h2⟩ := (lv_iff _).1 hg
    rw [m34_lock_line_L4, m34_lock_line_L4B, if_pos (by omega), idx_ok h, bind1_some, if_neg (by omega), if_neg (by omega), m34_lock_line_K6, if_neg ff, isMode_eq, bind1_some, if_pos (by simpa using h2)]
/-! The reference. -/
theorem list_ref (l : List TLock) (hl : Ln l) (g : Int) (go : Int → Option Bool) : m17_quirref_lineErr_L4 l g go big 0 = if okS [] l = true then m17_quirref_lineErr_K4 g go else some true := by
  let X : Nat → TLock → Unit → Option Bool ⊕ Unit := fun i y s => if (lvB y && !hasTx (l.take i) y.Tx) = true then .inr () else .inl (some true)
  have h := scanS0 (F := fun n i (_ : Unit) => m17_quirref_lineErr_L4 l g go n i) (l := l) hl (X := X) (E := fun _ => m17_quirref_lineErr_K4 g go) (fun i s => Mds (l.take i)) (fun n s _ => ?_) (fun n i s h hm => ?_) (fun i s s' h hI hx => ?_) () (fun z hz => by simp at hz)
  · rw [h]
    have h2 := scan_ok (X := X) (l := l) (E := m17_quirref_lineErr_K4 g go) (bad := some true) (fun i s h hc => by simp only [X]; rw [hc]; rfl) (fun i s h hc => ⟨(), by simp only [X]; rw [hc]; rfl⟩) l.length 0 (by omega) ()
    simpa using h2
  · show m17_quirref_lineErr_L4 l g go (n + 1) (l.length : Nat) = _
    rw [m17_quirref_lineErr_L4, m17_quirref_lineErr_L4B, if_neg (by omega)]
  · show m17_quirref_lineErr_L4 l g go (n + 1) (i : Nat) = _
    rw [m17_quirref_lineErr_L4, m17_quirref_lineErr_L4B, if_pos (by omega), idx_ok h, bind1_some]
    by_cases c1 : l[i].Tx < 0
    · rw [if_pos c1, m17_quirref_lineErr_K5, if_pos rfl]
      have : lvB l[i] = false := by rw [← Bool.not_eq_true, lv_iff]; omega
      simp [X, this]
    rw [if_neg c1]
    by_cases c2 : 11 < l[i].Tx
    · rw [if_pos c2, m17_quirref_lineErr_K5, if_pos rfl]
      have : lvB l[i] = false := by rw [← Bool.not_eq_true, lv_iff]; omega
      simp [X, this]
    rw [if_neg c2, m17_quirref_lineErr_K5, if_neg ff]
    by_cases c3 : l[i].Mode < 1
    · rw [if_pos c3, m17_quirref_lineErr_K6, if_pos rfl]
      have : lvB l[i] = false := by rw [← Bool.not_eq_true, lv_iff]; unfold Md; omega
      simp [X, this]
    rw [if_neg c3]
    by_cases c4 : 5 < l[i].Mode
    · rw [if_pos c4, m17_quirref_lineErr_K6, if_pos rfl]
      have : lvB l[i] = false := by rw [← Bool.not_eq_true, lv_iff]; unfold Md; omega
      simp [X, this]
    have hv : lvB l[i] = true := (lv_iff _).2 ⟨by omega, by omega, by unfold Md; omega⟩
    rw [if_neg c4, m17_quirref_lineErr_K6, if_neg ff, cut_take _ _ (by omega), bind1_some, holds_eq _ (by unfold Ln at *; rw [List.length_take]; omega), bind1_some, isucc i (by unfold Ln at hl; omega), bind1_some]
    by_cases c5 : hasTx (l.take i) l[i].Tx = true
    · rw [if_pos ((holds_pos hm _).2 c5)]
      simp [X, hv, c5]
    · rw [if_neg (by rw [holds_pos hm]; exact c5)]
      simp [X, hv, c5]
  · simp only [X] at hx
    split at hx
    · rename_i hc
      simp only [Bool.and_eq_true] at hc
      rw [take_snoc h]
      intro z hz
      rcases List.mem_append.1 hz with hz | hz
      · exact hI z hz
      · simp only [List.mem_singleton] at hz
        subst hz
        exact ((lv_iff _).1 hc.1).2.2
    · cases hx
theorem pairs_ref (x : TLockItem) (hl : Ln x.Held) (hm : Mds x.Held) (hq : Mds x.Queue) : m17_quirref_lineErr_K1 x = some (!(pairS x.Held && headS x.Held x.Queue)) := by
  have inner : ∀ (y : TLock) (L : List TLock) (i : Int) (go : Int → Option Bool), Ln L → m17_quirref_lineErr_L2 L y i go big 0 = if (L.all fun b => fitS y.Mode b.Mode) = true then m17_quirref_lineErr_K3 i go else some true := by
    intro y L i go hL
    rw [scan00 (F := m17_quirref_lineErr_L2 L y i go) (l := L) hL (fun _ b => if (!fitS y.Mode b.Mode) = true then some (some true) else none) (m17_quirref_lineErr_K3 i go) (fun n => ?_) (fun n i h => ?_), scanX_any]
    · rw [← all_any]
      cases (L.any fun b => !fitS y.Mode b.Mode) <;> simp
    · rw [m17_quirref_lineErr_L2, m17_quirref_lineErr_L2B, if_neg (by omega)]
    · rw [m17_quirref_lineErr_L2, m17_quirref_lineErr_L2B, if_pos (by omega), idx_ok h, bind1_some, fits_ref, bind1_some, isucc i (by unfold Ln at hL; omega), bind1_some]
      cases c2 : fitS y.Mode L[i].Mode <;> simp
  have key : ∀ (r i : Nat), i + r = x.Held.length → ∀ n, r < n → m17_quirref_lineErr_L1 x n (i : Nat) = some (!(pairR (x.Held.take i) (x.Held.drop i) && headS x.Held x.Queue)) := by
    intro r
    induction r with
    | zero =>
      intro i hi n hn
      obtain ⟨n, rfl⟩ := dec n hn
      rw [m17_quirref_lineErr_L1, m17_quirref_lineErr_L1B, if_neg (by omega), List.drop_eq_nil_of_le (by omega), head_ref x hl hm hq]
      rfl
    | succ r ih =>
      intro i hi n hn
      obtain ⟨n, rfl⟩ := dec n (by omega)
      have h1 : i < x.Held.length := by omega
      have hs := isucc i (by unfold Ln at hl; omega)
      rw [m17_quirref_lineErr_L1, m17_quirref_lineErr_L1B, if_pos (by omega), idx_ok h1, bind1_some, cut_take _ _ (by omega), bind1_some, inner _ _ _ _ (by unfold Ln at *; rw [List.length_take]; omega), drop_cons h1, pairR]
      cases c : ((x.Held.take i).all fun b => fitS x.Held[i].Mode b.Mode) with
      | false => simp
      | true => rw [if_pos rfl, m17_quirref_lineErr_K3, hs, bind1_some, ih (i + 1) (by omega) n (by omega), Bool.true_and, take_snoc h1]
  rw [m17_quirref_lineErr_K1]
  have := key x.Held.length 0 (by omega) big (lt_big (by unfold Ln at hl; omega))
  rw [List.take_zero, List.drop_zero, pair_eq] at this
  exact this
theorem line_ref (x : TLockItem) (hl : Ln x.Held) (hq : Ln x.Queue) : m17_quirref_lineErr x = some (!lineS x) := by
  have e1 : idx ([x.Held, x.Queue]) 0 = some x.Held := rfl
  have e2 : idx ([x.Held, x.Queue]) 1 = some x.Queue := rfl
  have i1 : i64 ((0 : Int) + 1) = some 1 := rfl
  have i2 : i64 ((1 : Int) + 1) = some 2 := rfl
  rw [m17_quirref_lineErr, big_succ, m17_quirref_lineErr_L3, m17_quirref_lineErr_L3B, if_pos (by simp), e1, bind1_some, list_ref _ hl]
  unfold lineS
  cases c1 : okS [] x.Held with
  | false => simp
  | true =>
    rw [if_pos rfl, m17_quirref_lineErr_K4, i1, bind1_some, show (1180591620717411303423 : Nat) = 1180591620717411303422 + 1 from rfl, m17_quirref_lineErr_L3, m17_quirref_lineErr_L3B, if_pos (by simp), e2, bind1_some, list_ref _ hq]
    cases c2 : okS [] x.Queue with
    | false => simp
    | true =>
      rw [if_pos rfl, m17_quirref_lineErr_K4, i2, bind1_some, show (1180591620717411303422 : Nat) = 1180591620717411303421 + 1 from rfl, m17_quirref_lineErr_L3, m17_quirref_lineErr_L3B, if_neg (by simp), pairs_ref x hl (ok_mds _ _ c1) (ok_mds _ _ c2)]
      simp
/-! ### Tables -/
def LnT (t : List TLockItem) : Prop := ∀ x ∈ t, Ln x.Held ∧ Ln x.Queue
def prevS (t : List TLockItem) (i : Nat) : Option Int := if 0 < i then (t[i - 1]?).map TLockItem.Item else none
def lowB (p : Option Int) (x : TLockItem) : Bool := match p with
  | some q => decide (x.Item ≤ q)
  | none => false
def itemS (p : Option Int) (x : TLockItem) : Option Int := if x.Item < 0 ∨ 19 < x.Item then some 1 else if (lowB p x || x.Held.isEmpty || !lineS x) = true then some 4 else none
def errS : Option Int → List TLockItem → Int
  | _, [] => 0
  | p, x :: t => match itemS p x with
    | some e => e
    | none => errS (some x.Item) t
def checkS (t : List TLockItem) : Int := if 20 < t.length then 2 else errS none t
theorem scan_err {t : List TLockItem} : ∀ (r i : Nat), i + r = t.length → scanX (fun i x => (itemS (prevS t i) x).map some) (some 0) i (t.drop i) = some (errS (prevS t i) (t.drop i)) := by
  intro r
  induction r with
  | zero => intro i hi; rw [List.drop_eq_nil_of_le (by omega)]; rfl
  | succ r ih =>
    intro i hi
    have h1 : i < t.length := by omega
    rw [drop_cons h1, scanX, errS]
    cases h : itemS (prevS t i) t[i] with
    | some e => rfl
    | none =>
      have := ih (i + 1) (by omega)
      have e : prevS t (i + 1) = some t[i].Item := by unfold prevS; rw [if_pos (by omega), Nat.add_sub_cancel, List.getElem?_eq_getElem h1]; rfl
      rw [e] at this
      simpa [e] using this
theorem check_ref (t : List TLockItem) (hl : Ln t) (ht : LnT t) : m5_quirref_LocksErr t = some (checkS t) := by
  rw [m5_quirref_LocksErr, checkS]
  by_cases c : 20 < t.length
  · rw [if_pos (by omega), if_pos c]
  rw [if_neg (by omega), if_neg c, m5_quirref_LocksErr_K1, scan00 (F := m5_quirref_LocksErr_L1 t) (l := t) hl (fun i x => (itemS (prevS t i) x).map some) (some 0) (fun n => ?_) (fun n i h => ?_)]
  · have := scan_err (t := t) t.length 0 (by omega)
    rw [List.drop_zero] at this
    rw [this]; rfl
  · rw [m5_quirref_LocksErr_L1, m5_quirref_LocksErr_L1B, if_neg (by omega), m5_quirref_LocksErr_K2]
  · obtain ⟨hx1, hx2⟩ := ht _ (List.getElem_mem h)
    rw [m5_quirref_LocksErr_L1, m5_quirref_LocksErr_L1B, if_pos (by omega), idx_ok h, bind1_some]
    unfold itemS
    by_cases c1 : t[i].Item < 0
    · rw [if_pos c1, if_pos (.inl c1)]; rfl
    by_cases c2 : 19 < t[i].Item
    · rw [if_neg c1, if_pos c2, if_pos (.inr c2)]; rfl
    rw [if_neg c1, if_neg c2, if_neg (by omega), m5_quirref_LocksErr_K3]
    have tail : ∀ b : Bool, m5_quirref_LocksErr_K4 t[i] i (m5_quirref_LocksErr_L1 t n) b = orGo (Option.map some (if (b || t[i].Held.isEmpty || !lineS t[i]) = true then some 4 else none)) (m5_quirref_LocksErr_L1 t n ((i + 1 : Nat) : Int)) := by
      intro b
      rw [m5_quirref_LocksErr_K4]
      cases b with
      | true => simp
      | false =>
        rw [if_neg ff]
        by_cases c3 : (t[i].Held.length : Int) = 0
        · have : t[i].Held = [] := List.length_eq_zero_iff.1 (by omega)
          rw [if_pos c3]; simp [this]
        · have : t[i].Held.isEmpty = false := by cases hh : t[i].Held with
            | nil => rw [hh] at c3; simp at c3
            | cons _ _ => rfl
          rw [if_neg c3, line_ref _ hx1 hx2, bind1_some, isucc i (by unfold Ln at hl; omega), bind1_some, this]
          cases lineS t[i] <;> simp
    by_cases c4 : 0 < i
    · have e : prevS t i = some (t[i - 1]'(by omega)).Item := by unfold prevS; rw [if_pos c4, List.getElem?_eq_getElem (by omega)]; rfl
      rw [if_pos (by omega), ipred i c4 (by unfold Ln at hl; omega), bind1_some, idx_ok (by omega), bind1_some, e, lowB]
      by_cases c5 : t[i].Item ≤ (t[i - 1]'(by omega)).Item
      · rw [if_pos c5, tail]; simp [c5]
      · rw [if_neg c5, tail, show decide (t[i].Item ≤ (t[i - 1]'(by omega)).Item) = false by simpa using c5]
    · have e : prevS t i = none := by unfold prevS; rw [if_neg c4]
      rw [if_neg (by omega), tail, e, lowB]
theorem check_lock (t : List TLockItem) (hl : Ln t) (ht : LnT t) : m9_lock_Check t = some (checkS t) := by
  rw [m9_lock_Check, checkS]
  by_cases c : 20 < t.length
  · rw [if_pos (by omega), if_pos c]
  rw [if_neg (by omega), if_neg c, m9_lock_Check_K1, scan00 (F := m9_lock_Check_L1 t) (l := t) hl (fun i x => (itemS (prevS t i) x).map some) (some 0) (fun n => ?_) (fun n i h => ?_)]
  · have := scan_err (t := t) t.length 0 (by omega)
    rw [List.drop_zero] at this
    rw [this]; rfl
  · rw [m9_lock_Check_L1, m9_lock_Check_L1B, if_neg (by omega), m9_lock_Check_K2]
  · obtain ⟨hx1, hx2⟩ := ht _ (List.getElem_mem h)
    rw [m9_lock_Check_L1, m9_lock_Check_L1B, if_pos (by omega), idx_ok h, bind1_some]
    unfold itemS
    by_cases c1 : t[i].Item < 0
    · rw [if_pos c1, if_pos (.inl c1)]; rfl
    by_cases c2 : 19 < t[i].Item
    · rw [if_neg c1, if_pos (by omega), if_pos (.inr c2)]; rfl
    rw [if_neg c1, if_neg (by omega), if_neg (by omega), m9_lock_Check_K3]
    have tail : ∀ b : Bool, m9_lock_Check_K4 t[i] i (m9_lock_Check_L1 t n) b = orGo (Option.map some (if (b || t[i].Held.isEmpty || !lineS t[i]) = true then some 4 else none)) (m9_lock_Check_L1 t n ((i + 1 : Nat) : Int)) := by
      intro b
      rw [m9_lock_Check_K4]
      cases b with
      | true => simp
      | false =>
        rw [if_neg ff]
        by_cases c3 : (t[i].Held.length : Int) = 0
        · have : t[i].Held = [] := List.length_eq_zero_iff.1 (by omega)
          rw [if_pos c3]; simp [this]
        · have : t[i].Held.isEmpty = false := by cases hh : t[i].Held with
            | nil => rw [hh] at c3; simp at c3
            | cons _ _ => rfl
          rw [if_neg c3, line_lock _ hx1 hx2, bind1_some, isucc i (by unfold Ln at hl; omega), bind1_some, this]
          cases lineS t[i] <;> simp
    by_cases c4 : 0 < i
    · have e : prevS t i = some (t[i - 1]'(by omega)).Item := by unfold prevS; rw [if_pos c4, List.getElem?_eq_getElem (by omega)]; rfl
      rw [if_pos (by omega), ipred i c4 (by unfold Ln at hl; omega), bind1_some, idx_ok (by omega), bind1_some, e, lowB]
      by_cases c5 : t[i].Item ≤ (t[i - 1]'(by omega)).Item
      · rw [if_pos c5, tail]; simp [c5]
      · rw [if_neg c5, tail, show decide (t[i].Item ≤ (t[i - 1]'(by omega)).Item) = false by simpa using c5]
    · have e : prevS t i = none := by unfold prevS; rw [if_neg c4]
      rw [if_neg (by omega), tail, e, lowB]
end Go.Proofs.Ytgkdimboofglfaa
