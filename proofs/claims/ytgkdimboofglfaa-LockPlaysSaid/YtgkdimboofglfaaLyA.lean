/-
  Package lock: a table that is right stays right.
  Conditions: none.
-/
import Derived.Test.YtgkdimboofglfaaLkH
namespace Go.Proofs.Ytgkdimboofglfaa
open Go.S
set_option linter.unusedVariables false
set_option linter.unusedSimpArgs false
theorem ok_sub {l l' : List TLock} (h : okS [] l = true) (hs : l'.Sublist l) : okS [] l' = true := by
  obtain ⟨h1, h2⟩ := (ok_iff0 l).1 h
  exact (ok_iff0 l').2 ⟨fun a ha => h1 a (hs.subset ha), h2.sublist hs⟩
theorem pair_sub {l l' : List TLock} (h : pairS l = true) (hs : l'.Sublist l) : pairS l' = true := (pair_iff l').2 (((pair_iff l).1 h).sublist hs)
theorem can_iff (H : List TLock) (a : TLock) : canS H a = true ↔ ∀ h ∈ H, h.Tx ≠ a.Tx → fitS (wishS H a) h.Mode = true := by
  unfold canS
  rw [List.all_eq_true]
  refine ⟨fun h x hx hne => ?_, fun h x hx => ?_⟩
  · have := h x hx
    simpa [hne] using this
  · by_cases c : x.Tx = a.Tx
    · simp [c]
    · simp [h x hx c]
/-- What is given goes together with all others. -/
theorem give_ok {H : List TLock} {a : TLock} (ho : okS [] H = true) (hp : pairS H = true) (ha : lvB a = true) (hc : canS H a = true) : okS [] (giveL H a) = true ∧ pairS (giveL H a) = true := by
  obtain ⟨h1, h2⟩ := (ok_iff0 H).1 ho
  have hm := ok_mds _ _ ho
  obtain ⟨a0, a1, a2⟩ := (lv_iff a).1 ha
  have hw := wish_md hm a2
  rw [can_iff] at hc
  rw [pair_iff] at hp
  refine ⟨(ok_iff0 _).2 ⟨fun z hz => ?_, give_ds h2⟩, (pair_iff _).2 ?_⟩
  · unfold giveL at hz
    split at hz
    · obtain ⟨y, hy, rfl⟩ := List.mem_map.1 hz
      obtain ⟨g0, g1, g2⟩ := (lv_iff y).1 (h1 y hy)
      split
      · exact (lv_iff _).2 ⟨g0, g1, hw⟩
      · exact h1 y hy
    · rcases List.mem_append.1 hz with hz | hz
      · exact h1 z hz
      · rw [List.mem_singleton] at hz
        subst hz
        exact (lv_iff _).2 ⟨a0, a1, hw⟩
  · unfold giveL
    split
    · rw [List.pairwise_map]
      refine List.Pairwise.imp_of_mem ?_ (hp.and h2)
      rintro x y hx hy ⟨g1, g2⟩
      by_cases c1 : x.Tx = a.Tx
      · rw [if_pos c1, if_neg (by omega)]
        exact hc y hy (by omega)
      · rw [if_neg c1]
        by_cases c2 : y.Tx = a.Tx
        · rw [if_pos c2, fit_symm]
          exact hc x hx c1
        · rw [if_neg c2]; exact g1
    · rename_i c
      rw [List.pairwise_append]
      refine ⟨hp, by simp, fun x hx y hy => ?_⟩
      rw [List.mem_singleton] at hy
      subst hy
      rw [fit_symm]
      exact hc x hx (hasTx_false.1 (by simpa using c) x hx)
theorem find_same {H : List TLock} {a : TLock} {m : Int} (t : Int) (h : t ≠ a.Tx) : (H.map fun h => if h.Tx = a.Tx then (⟨h.Tx, m⟩ : TLock) else h).find? (fun h => decide (h.Tx = t)) = H.find? fun h => decide (h.Tx = t) := by
  induction H with
  | nil => rfl
  | cons y H ih =>
    rw [List.map_cons, List.find?_cons, List.find?_cons]
    by_cases c : y.Tx = a.Tx
    · rw [if_pos c, ih]
      simp only [show decide (y.Tx = t) = false by simp; omega]
    · rw [if_neg c, ih]
/-- Who could not go on still can't. -/
theorem head_keep {H : List TLock} {a q : TLock} (ho : okS [] H = true) (ha : Md a.Mode) (hq : Md q.Mode) (hne : q.Tx ≠ a.Tx) (hh : hasTx H a.Tx = true) (h : canS H q = false) : canS (giveL H a) q = false := by
  obtain ⟨h1, h2⟩ := (ok_iff0 H).1 ho
  have hm := ok_mds _ _ ho
  have hw : wishS (giveL H a) q = wishS H q := by
    unfold wishS giveL
    rw [if_pos hh, find_same q.Tx hne]
  rw [← Bool.not_eq_true, can_iff] at h ⊢
  intro hall
  apply h
  intro x hx hxq
  rw [hw] at hall
  by_cases c : x.Tx = a.Tx
  · have hmem : (⟨x.Tx, wishS H a⟩ : TLock) ∈ giveL H a := by
      unfold giveL
      rw [if_pos hh]
      exact List.mem_map.2 ⟨x, hx, by rw [if_pos c]⟩
    have h3 := hall _ hmem hxq
    have h4 : wishS H a = joinS x.Mode a.Mode := by
      unfold wishS
      have h5 : H.find? (fun h => decide (h.Tx = a.Tx)) = some x := by
        clear hall h hmem h3 hw hh
        induction H with
        | nil => cases hx
        | cons y H ih =>
          obtain ⟨g1, g2⟩ := List.pairwise_cons.1 h2
          rw [List.find?_cons]
          rcases List.mem_cons.1 hx with rfl | hx
          · simp [c]
          · have := g1 x hx
            rw [show decide (y.Tx = a.Tx) = false by simp; omega]
            exact ih ((ok_iff0 H).2 ⟨fun z hz => h1 z (by simp [hz]), g2⟩) (fun z hz => h1 z (by simp [hz])) g2 (fun z hz => hm z (by simp [hz])) hx
      rw [h5]
    rw [h4] at h3
    cases h6 : fitS (wishS H q) x.Mode with
    | true => rfl
    | false =>
      rw [fit_join (wish_md hm hq) (hm x hx) ha h6] at h3
      cases h3
  · refine hall x ?_ hxq
    unfold giveL
    rw [if_pos hh]
    exact List.mem_map.2 ⟨x, hx, by rw [if_neg c]⟩
theorem mk_rt {x : TLockItem} (i0 : 0 ≤ x.Item) (i1 : x.Item ≤ 19) (ne : x.Held ≠ []) (h1 : okS [] x.Held = true) (h2 : okS [] x.Queue = true) (h3 : pairS x.Held = true) (h4 : headS x.Held x.Queue = true) : Rt x :=
  ⟨i0, i1, ne, by unfold lineS; rw [h1, h2, h3, h4]; rfl⟩
theorem give_ne {H : List TLock} {a : TLock} (h : H ≠ []) : giveL H a ≠ [] := by
  unfold giveL
  split
  · simpa using h
  · simp
theorem asked_rt {x : TLockItem} {a : TLock} (hx : Rt x) (ha : lvB a = true) (hn : hasTx x.Queue a.Tx = false) : Rt (askedS x a).1 := by
  have hq := (ok_iff0 _).1 hx.queue
  obtain ⟨a0, a1, a2⟩ := (lv_iff a).1 ha
  have hnq := hasTx_false.1 hn
  unfold askedS
  by_cases c : (canS x.Held a && (hasTx x.Held a.Tx || x.Queue.isEmpty)) = true
  · rw [if_pos c]
    simp only [Bool.and_eq_true, Bool.or_eq_true] at c
    obtain ⟨g1, g2⟩ := give_ok hx.held hx.pair ha c.1
    refine mk_rt hx.i0 hx.i1 (give_ne hx.ne) g1 hx.queue g2 ?_
    simp only
    have hh := hx.head
    revert hh hnq
    cases hQ : x.Queue with
    | nil => intro _ _; rfl
    | cons q Q =>
      intro hnq hh
      unfold headS at hh ⊢
      simp only [Bool.not_eq_true'] at hh ⊢
      have hhas : hasTx x.Held a.Tx = true := by
        rcases c.2 with h | h
        · exact h
        · rw [hQ] at h; cases h
      exact head_keep hx.held a2 (hx.qm q (by rw [hQ]; simp)) (hnq q (by simp)) hhas hh
  · rw [if_neg c]
    have hlate : okS [] (lateS x.Held x.Queue a) = true := by
      refine (ok_iff0 _).2 ?_
      unfold lateS
      split
      · generalize cntS x.Held x.Queue = k
        refine ⟨fun z hz => ?_, ?_⟩
        · simp only [List.mem_append, List.mem_singleton] at hz
          rcases hz with (hz | rfl) | hz
          · exact hq.1 z (List.mem_of_mem_take hz)
          · exact ha
          · exact hq.1 z (List.mem_of_mem_drop hz)
        · unfold Ds
          rw [List.append_assoc, List.pairwise_append, List.singleton_append, List.pairwise_cons]
          have h0 := hq.2
          unfold Ds at h0
          rw [← List.take_append_drop k x.Queue, List.pairwise_append] at h0
          refine ⟨h0.1, ⟨fun z hz => (hnq z (List.mem_of_mem_drop hz)).symm, h0.2.1⟩, fun z hz y hy => ?_⟩
          rcases List.mem_cons.1 hy with rfl | hy
          · exact hnq z (List.mem_of_mem_take hz)
          · exact h0.2.2 z hz y hy
      · refine ⟨fun z hz => ?_, ?_⟩
        · rcases List.mem_append.1 hz with hz | hz
          · exact hq.1 z hz
          · rw [List.mem_singleton] at hz; rw [hz]; exact ha
        · unfold Ds
          rw [List.pairwise_append]
          refine ⟨hq.2, by simp, fun z hz y hy => ?_⟩
          rw [List.mem_singleton] at hy
          rw [hy]; exact hnq z hz
    refine mk_rt hx.i0 hx.i1 hx.ne hx.held hlate hx.pair ?_
    simp only
    have hh := hx.head
    simp only [Bool.and_eq_true, Bool.or_eq_true, not_and, not_or] at c
    unfold lateS
    by_cases c2 : hasTx x.Held a.Tx = true
    · rw [if_pos c2]
      have hcan : canS x.Held a = false := by
        cases h : canS x.Held a with
        | false => rfl
        | true => exact absurd c2 (c h).1
      cases hk : cntS x.Held x.Queue with
      | zero => simp [headS, hcan]
      | succ k =>
        cases hQ : x.Queue with
        | nil => rw [hQ] at hk; simp [cntS] at hk
        | cons q Q =>
          rw [hQ] at hh
          simpa [headS] using hh
    · rw [if_neg c2]
      cases hQ : x.Queue with
      | nil =>
        have hcan : canS x.Held a = false := by
          cases h : canS x.Held a with
          | false => rfl
          | true =>
            have := (c h).2
            rw [hQ] at this
            exact absurd rfl this
        simp [headS, hcan]
      | cons q Q =>
        rw [hQ] at hh
        simpa [headS] using hh
theorem new_rt {item : Int} {a : TLock} (h0 : 0 ≤ item) (h1 : item ≤ 19) (ha : lvB a = true) : Rt ⟨item, [a], []⟩ :=
  mk_rt h0 h1 (by simp) (by simp [okS, ha, hasTx]) rfl (by simp [pairS]) rfl
theorem asked_item (x : TLockItem) (a : TLock) : (askedS x a).1.Item = x.Item := by unfold askedS; split <;> rfl
theorem ins_good {item : Int} {a : TLock} (h0 : 0 ≤ item) (h1 : item ≤ 19) (ha : lvB a = true) : ∀ {t : List TLockItem}, (∀ x ∈ t, Rt x) → Asc t → (∀ x ∈ t, hasTx x.Queue a.Tx = false) →
    (∀ x ∈ (insS item a t).1, Rt x) ∧ Asc (insS item a t).1 ∧ ∀ y ∈ (insS item a t).1, y.Item = item ∨ ∃ x ∈ t, x.Item = y.Item
  | [], _, _, _ => by
    exact ⟨by simpa [insS] using new_rt h0 h1 ha, by simp [insS], by simp [insS]⟩
  | x :: t, hr, hs, hn => by
    obtain ⟨s1, s2⟩ := List.pairwise_cons.1 hs
    rw [insS]
    by_cases c1 : item < x.Item
    · rw [if_pos c1]
      refine ⟨fun y hy => ?_, ?_, fun y hy => ?_⟩
      · rcases List.mem_cons.1 hy with rfl | hy
        · exact new_rt h0 h1 ha
        · exact hr y hy
      · refine List.pairwise_cons.2 ⟨fun y hy => ?_, hs⟩
        rcases List.mem_cons.1 hy with rfl | hy
        · exact c1
        · have := s1 y hy
          show item < y.Item
          omega
      · rcases List.mem_cons.1 hy with rfl | hy
        · exact .inl rfl
        · exact .inr ⟨y, hy, rfl⟩
    rw [if_neg c1]
    by_cases c2 : x.Item = item
    · rw [if_pos c2]
      have ei := asked_item x a
      refine ⟨fun y hy => ?_, List.pairwise_cons.2 ⟨fun y hy => by rw [ei]; exact s1 y hy, s2⟩, fun y hy => ?_⟩
      · rcases List.mem_cons.1 hy with rfl | hy
        · exact asked_rt (hr x (by simp)) ha (hn x (by simp))
        · exact hr y (by simp [hy])
      · rcases List.mem_cons.1 hy with rfl | hy
        · exact .inr ⟨x, by simp, ei.symm⟩
        · exact .inr ⟨y, by simp [hy], rfl⟩
    rw [if_neg c2]
    obtain ⟨g1, g2, g3⟩ := ins_good h0 h1 ha (t := t) (fun y hy => hr y (by simp [hy])) s2 (fun y hy => hn y (by simp [hy]))
    refine ⟨fun y hy => ?_, List.pairwise_cons.2 ⟨fun y hy => ?_, g2⟩, fun y hy => ?_⟩
    · rcases List.mem_cons.1 hy with rfl | hy
      · exact hr y (by simp)
      · exact g1 y hy
    · rcases g3 y hy with h | ⟨z, hz, h⟩
      · omega
      · have := s1 z hz; omega
    · rcases List.mem_cons.1 hy with rfl | hy
      · exact .inr ⟨y, by simp, rfl⟩
      · rcases g3 y hy with h | ⟨z, hz, h⟩
        · exact .inl h
        · exact .inr ⟨z, by simp [hz], h⟩
theorem asc_len {t : List TLockItem} (hr : ∀ x ∈ t, Rt x) (hs : Asc t) : t.length ≤ 20 := by
  have h1 : (t.map TLockItem.Item).Nodup := by
    rw [List.Nodup, List.pairwise_map]
    exact hs.imp fun h => by omega
  have h3 : (t.map TLockItem.Item) ⊆ (List.range 20).map fun i : Nat => (i : Int) := by
    intro i hi
    obtain ⟨x, hx, rfl⟩ := List.mem_map.1 hi
    have := (hr x hx).i0
    have := (hr x hx).i1
    exact List.mem_map.2 ⟨x.Item.toNat, List.mem_range.2 (by omega), by omega⟩
  have := h1.length_le_of_subset h3
  simpa using this
theorem ask_good {t : List TLockItem} {tx item mode : Int} (hg : Good t) (ht0 : 0 ≤ tx) (ht1 : tx ≤ 11) (h0 : 0 ≤ item) (h1 : item ≤ 19) (hm : Md mode) (he : (askS t tx item mode).2.2 = 0) : Good (askS t tx item mode).1 := by
  unfold askS at he ⊢
  split at he
  · cases he
  rename_i c
  rw [if_neg c]
  have hn : ∀ x ∈ t, hasTx x.Queue tx = false := by
    simpa using c
  obtain ⟨g1, g2, _⟩ := ins_good (item := item) (a := ⟨tx, mode⟩) h0 h1 ((lv_iff _).2 ⟨ht0, ht1, hm⟩) hg.rt hg.asc hn
  exact ⟨asc_len g1 g2, g1, g2⟩
/-! ### Drop -/
theorem dropQ_ok : ∀ (Q H : List TLock) (g : List Int), okS [] H = true → pairS H = true → okS [] Q = true → okS [] (dropQ H Q g).1 = true ∧ pairS (dropQ H Q g).1 = true ∧ okS [] (dropQ H Q g).2.1 = true ∧ headS (dropQ H Q g).1 (dropQ H Q g).2.1 = true
  | [], H, g, h1, h2, h3 => ⟨h1, h2, h3, rfl⟩
  | q :: Q, H, g, h1, h2, h3 => by
    rw [dropQ]
    cases c : canS H q with
    | false => rw [if_neg ff]; exact ⟨h1, h2, h3, by simp [headS, c]⟩
    | true =>
      rw [if_pos rfl]
      obtain ⟨g1, g2⟩ := give_ok h1 h2 (((ok_iff0 _).1 h3).1 q (by simp)) c
      exact dropQ_ok Q _ _ g1 g2 (ok_sub h3 (List.sublist_cons_self _ _))
theorem dropT_good (tx : Int) : ∀ (t out : List TLockItem) (g : List Int), (∀ x ∈ t, Rt x) → Asc t → (∀ y ∈ out, Rt y) → Asc out → (∀ y ∈ out, ∀ x ∈ t, y.Item < x.Item) → (∀ y ∈ (dropT tx t out g).1, Rt y) ∧ Asc (dropT tx t out g).1
  | [], out, g, _, _, h3, h4, _ => ⟨h3, h4⟩
  | x :: t, out, g, h1, h2, h3, h4, h5 => by
    obtain ⟨s1, s2⟩ := List.pairwise_cons.1 h2
    have hx := h1 x (by simp)
    obtain ⟨g1, g2, g3, g4⟩ := dropQ_ok (without x.Queue tx) (without x.Held tx) g (ok_sub hx.held List.filter_sublist) (pair_sub hx.pair List.filter_sublist) (ok_sub hx.queue List.filter_sublist)
    rw [dropT]
    generalize dropQ (without x.Held tx) (without x.Queue tx) g = z at *
    obtain ⟨H, Q, g'⟩ := z
    simp only at *
    cases H with
    | nil => exact dropT_good tx t out g' (fun y hy => h1 y (by simp [hy])) s2 h3 h4 fun y hy z hz => h5 y hy z (by simp [hz])
    | cons a H =>
      refine dropT_good tx t _ g' (fun y hy => h1 y (by simp [hy])) s2 (fun y hy => ?_) ?_ fun y hy z hz => ?_
      · rcases List.mem_append.1 hy with hy | hy
        · exact h3 y hy
        · rw [List.mem_singleton] at hy
          rw [hy]
          exact mk_rt hx.i0 hx.i1 (by simp) g1 g3 g2 g4
      · show Asc (out ++ _)
        unfold Asc
        rw [List.pairwise_append]
        refine ⟨h4, by simp, fun y hy z hz => ?_⟩
        rw [List.mem_singleton] at hz
        rw [hz]
        exact h5 y hy x (by simp)
      · rcases List.mem_append.1 hy with hy | hy
        · exact h5 y hy z (by simp [hz])
        · rw [List.mem_singleton] at hy
          rw [hy]
          exact s1 z hz
theorem drop_good {t : List TLockItem} (hg : Good t) (tx : Int) : Good (dropS t tx).1 := by
  obtain ⟨h1, h2⟩ := dropT_good tx t [] [] hg.rt hg.asc (by simp) (by simp) (by simp)
  exact ⟨asc_len h1 h2, h1, h2⟩
end Go.Proofs.Ytgkdimboofglfaa
