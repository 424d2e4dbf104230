/-
  Runs by snapshots, as if one behind another: skew.Play as the document has it.
  Conditions: none.
-/
import Derived.Test.YtfmgjigdebofaaaSnQ
namespace Go.Proofs.Ytfmgjigdebofaaa
open Go.S
set_option linter.unusedVariables false
set_option linter.unusedSimpArgs false
theorem wr_of {l : List TOp} {c j : Nat} {k it : Int} (hj : j < l.length) (h : j < c) (he : l[j] = ⟨k, 2, it⟩) : wrB l c k it = true := by
  unfold wrB
  rw [decide_eq_true_iff, List.mem_iff_getElem]
  exact ⟨j, by rw [List.length_take]; omega, by rw [List.getElem_take, he]⟩
/-- What a transaction does is ahead of its commit. -/
theorem tx_lt {l : List TOp} (hg : Good l) {D : List TDid} {i c j : Nat} (hi : i < l.length) (hc : c ∈ cm (okc l D) i ++ [i]) (hj : j < i) (ht : l[j].Tx = txN l c) (hk : l[j].Kind ≠ 3) : j < c := by
  rcases List.mem_append.1 hc with h | h
  · obtain ⟨h1, h2⟩ := cm_mem.1 h
    obtain ⟨g1, g2⟩ := okc_com h2
    rw [txN_at g1] at ht
    by_cases c1 : c < j
    · exact absurd ht.symm (com_other hg (show j < l.length by omega) c1 (by omega))
    · by_cases c2 : j = c
      · subst c2; exact absurd g2 hk
      · omega
  · have : c = i := by simpa using h
    omega
theorem all_le {K : Nat → Bool} {i c : Nat} (hc : c ∈ cm K i ++ [i]) : c ≤ i := by
  rcases List.mem_append.1 hc with h | h
  · have := (cm_mem.1 h).1; omega
  · have : c = i := by simpa using h
    omega
theorem wr_stop {l : List TOp} (hg : Good l) {D : List TDid} {i c : Nat} (hi : i < l.length) (hc : c ∈ cm (okc l D) i ++ [i]) (it : Int) : wrB l i (txN l c) it = wrB l c (txN l c) it := by
  rw [Bool.eq_iff_iff]
  have hle := all_le hc
  constructor
  · intro h
    obtain ⟨j, hj, hji, he⟩ := wr_in hg h
    exact wr_of hj (tx_lt hg hi hc hji (by rw [he]) (by rw [he]; show (2 : Int) ≠ 3; decide)) he
  · intro h
    obtain ⟨j, hj, hji, he⟩ := wr_in hg h
    exact wr_of hj (by omega) he
theorem tx_inj {l : List TOp} (hg : Good l) {D : List TDid} {i a b : Nat} (hi : i < l.length) (ha : a ∈ cm (okc l D) i ++ [i]) (hb : b ∈ cm (okc l D) i ++ [i]) (h : txN l a = txN l b) : a = b := by
  have key : ∀ c ∈ cm (okc l D) i, txN l c ≠ txN l i := by
    intro c hc h
    have h1 := dn_com (l := l) hc
    rw [h, txN_at hi, dn_now hg hi] at h1
    cases h1
  rcases List.mem_append.1 ha with h1 | h1
  · rcases List.mem_append.1 hb with h2 | h2
    · exact com_tx hg (by omega) h1 h2 h
    · have : b = i := by simpa using h2
      subst this
      exact absurd h (key a h1)
  · have : a = i := by simpa using h1
    subst this
    rcases List.mem_append.1 hb with h2 | h2
    · exact absurd h.symm (key b h2)
    · have : b = a := by simpa using h2
      exact this.symm
theorem bes_half {l : List TOp} (hg : Good l) {D : List TDid} {i a b : Nat} (hi : i < l.length) (ha : a ∈ cm (okc l D) i ++ [i]) (hb : b ∈ cm (okc l D) i ++ [i]) :
    (!(stU l (okc l D) i (i + 1) (txN l a)).done_ || decide ((stU l (okc l D) i (i + 1) (txN l b)).from_ < (stU l (okc l D) i (i + 1) (txN l a)).at_)) = !decide (a < bg l (txN l b)) := by
  have hbl := all_le hb
  have hbb : bg l (txN l b) ≤ b := by
    rw [txN_at (show b < l.length by omega)]
    exact bg_le (by omega) rfl
  have hf : (stU l (okc l D) i (i + 1) (txN l b)).from_ = (nc (okc l D) (bg l (txN l b)) : Int) := if_pos (by omega)
  rw [hf]
  rcases List.mem_append.1 ha with h | h
  · have h1 : (stU l (okc l D) i (i + 1) (txN l a)).done_ = true := dn_com h
    have h2 : (stU l (okc l D) i (i + 1) (txN l a)).at_ = (nc (okc l D) a : Int) + 1 := aT_com hg (by omega) h
    have h3 := nc_iff (b := bg l (txN l b)) (cm_mem.1 h).2
    rw [h1, h2]
    by_cases c : a < bg l (txN l b)
    · have := h3.2 c
      rw [decide_eq_true c, decide_eq_false (show ¬ (nc (okc l D) (bg l (txN l b)) : Int) < (nc (okc l D) a : Int) + 1 by omega)]
      rfl
    · have : ¬ nc (okc l D) a + 1 ≤ nc (okc l D) (bg l (txN l b)) := fun h => c (h3.1 h)
      rw [decide_eq_false c, decide_eq_true (show (nc (okc l D) (bg l (txN l b)) : Int) < (nc (okc l D) a : Int) + 1 by omega)]
      rfl
  · have : a = i := by simpa using h
    subst this
    have h1 : (stU l (okc l D) a (a + 1) (txN l a)).done_ = false := by
      show dn l (okc l D) a (txN l a) = false
      rw [txN_at hi]; exact dn_now hg hi
    rw [h1, decide_eq_false (show ¬ a < bg l (txN l b) by omega)]
    rfl
theorem bes_all {l : List TOp} (hg : Good l) {D : List TDid} {i a b : Nat} (hi : i < l.length) (ha : a ∈ cm (okc l D) i ++ [i]) (hb : b ∈ cm (okc l D) i ++ [i]) :
    besB (stU l (okc l D) i (i + 1) (txN l a)) (stU l (okc l D) i (i + 1) (txN l b)) = (!decide (b < bg l (txN l a)) && !decide (a < bg l (txN l b))) := by
  rw [besB, bes_half hg hi ha hb, bes_half hg hi hb ha, Bool.and_comm]
theorem sk_same {l : List TOp} (hg : Good l) {D : List TDid} {i a b : Nat} (hi : i < l.length) (ha : a ∈ cm (okc l D) i ++ [i]) (hb : b ∈ cm (okc l D) i ++ [i]) :
    skT (stU l (okc l D) i (i + 1) (txN l a)) (stU l (okc l D) i (i + 1) (txN l b)) = rsk l a b := by
  rw [skT, bes_all hg hi ha hb, rsk]
  congr 1
  show comB (rs l (txN l a) i) (ws l (txN l b) i) = _
  rw [Bool.eq_iff_iff, comB, List.any_eq_true, List.any_eq_true]
  constructor
  · rintro ⟨it, h1, h2⟩
    obtain ⟨j, g1, g2, g3, g4, g5⟩ := (rs_mem l (txN l a) it i (by omega)).1 h1
    have h3 := (ws_mem l (txN l b) it i (by omega)).1 (of_decide_eq_true h2)
    rw [wr_stop hg hi hb] at h3
    have hj : j < l.length := by omega
    have h4 := tx_lt hg hi ha g1 (by rw [← opN_at hj]; exact g3) (by rw [← opN_at hj, g2]; show (1 : Int) ≠ 3; decide)
    refine ⟨j, by rw [List.mem_range']; exact ⟨j, by omega, by omega⟩, ?_⟩
    unfold rdP
    rw [g2, g3, g4, g5, h3]
    simp
  · rintro ⟨j, h1, h2⟩
    rw [List.mem_range'] at h1
    obtain ⟨q, h3, h4⟩ := h1
    unfold rdP at h2
    simp only [Bool.and_eq_true, decide_eq_true_eq, Bool.not_eq_true'] at h2
    obtain ⟨⟨⟨g2, g3⟩, g5⟩, g6⟩ := h2
    have hle := all_le ha
    refine ⟨(opN l j).Item, (rs_mem l (txN l a) _ i (by omega)).2 ⟨j, by omega, g2, g3, rfl, g5⟩, decide_eq_true ((ws_mem l (txN l b) _ i (by omega)).2 ?_)⟩
    rw [wr_stop hg hi hb]
    exact g6
/-- Places and transactions. -/
theorem any_tau {l : List TOp} {A : List Nat} {allT : List Int} (hA : ∀ x, x ∈ allT ↔ ∃ p ∈ A, txN l p = x) (f : Int → Bool) (g : Nat → Bool) (h : ∀ p ∈ A, f (txN l p) = g p) : allT.any f = A.any g := by
  rw [Bool.eq_iff_iff, List.any_eq_true, List.any_eq_true]
  constructor
  · rintro ⟨x, h1, h2⟩
    obtain ⟨p, h3, rfl⟩ := (hA x).1 h1
    exact ⟨p, h3, by rw [← h p h3]; exact h2⟩
  · rintro ⟨p, h1, h2⟩
    exact ⟨txN l p, (hA _).2 ⟨p, h1, rfl⟩, by rw [h p h1]; exact h2⟩
theorem btw_own {l : List TOp} (hg : Good l) (D : List TDid) {i : Nat} (hi : i < l.length) {allT : List Int} (hA : ∀ x, x ∈ allT ↔ ∃ p ∈ cm (okc l D) i ++ [i], txN l p = x) :
    (allT.any fun b => inT (stU l (okc l D) i (i + 1)) allT b && outT (stU l (okc l D) i (i + 1)) allT b) = btw l (okc l D) i := by
  have hdec : ∀ p ∈ cm (okc l D) i ++ [i], ∀ b ∈ cm (okc l D) i ++ [i], decide (txN l p = txN l b) = decide (p = b) := by
    intro p hp b hb
    rw [decide_eq_decide]
    exact ⟨tx_inj hg hi hp hb, fun h => by rw [h]⟩
  refine any_tau hA _ _ fun b hb => ?_
  have e1 : inT (stU l (okc l D) i (i + 1)) allT (txN l b) = inB l (cm (okc l D) i ++ [i]) b := any_tau hA _ _ fun p hp => by
    rw [hdec p hp b hb, sk_same hg hi hp hb]
  have e2 : outT (stU l (okc l D) i (i + 1)) allT (txN l b) = outB l (cm (okc l D) i ++ [i]) b := any_tau hA _ _ fun p hp => by
    rw [hdec p hp b hb, sk_same hg hi hb hp]
  rw [e1, e2]
theorem all_mem {l : List TOp} (hg : Good l) (D : List TDid) {i : Nat} (hi : i < l.length) (x : Int) :
    x ∈ ints ((List.range' 0 12).filter (donT (stU l (okc l D) i (i + 1)) l[i].Tx)) ++ [l[i].Tx] ↔ ∃ p ∈ cm (okc l D) i ++ [i], txN l p = x := by
  constructor
  · intro h
    rcases List.mem_append.1 h with h | h
    · obtain ⟨j, h1, rfl⟩ := List.mem_map.1 h
      have h2 := (List.mem_filter.1 h1).2
      unfold donT at h2
      rw [Bool.and_eq_true] at h2
      have h3 : dn l (okc l D) i (j : Int) = true := h2.2
      unfold dn at h3
      obtain ⟨c, h4, h5⟩ := List.any_eq_true.1 h3
      exact ⟨c, List.mem_append_left _ h4, of_decide_eq_true h5⟩
    · have : x = l[i].Tx := by simpa using h
      exact ⟨i, by simp, by rw [txN_at hi, this]⟩
  · rintro ⟨p, h1, rfl⟩
    rcases List.mem_append.1 h1 with h | h
    · have hp := (cm_mem.1 h).1
      have hr := txN_range hg (show p < l.length by omega)
      refine List.mem_append_left _ (List.mem_map.2 ⟨(txN l p).toNat, List.mem_filter.2 ⟨by rw [List.mem_range']; exact ⟨(txN l p).toNat, by omega, by omega⟩, ?_⟩, by omega⟩)
      have h2 := dn_com (l := l) h
      have h3 : txN l p ≠ l[i].Tx := by
        intro h4
        rw [h4, dn_now hg hi] at h2
        cases h2
      unfold donT
      rw [show (((txN l p).toNat : Nat) : Int) = txN l p by omega, decide_eq_false h3]
      exact h2
    · have : p = i := by simpa using h
      rw [this, txN_at hi]
      simp
theorem lost_skew {l : List TOp} (hg : Good l) (D : List TDid) {i : Nat} (hi : i < l.length) :
    (List.range' 0 12).any (losT (stU l (okc l D) i (i + 1)) l[i].Tx) = lostB l (okc l D) i l[i].Tx := by
  have hii : i ∈ cm (okc l D) i ++ [i] := by simp
  rw [Bool.eq_iff_iff, List.any_eq_true, lostB, List.any_eq_true]
  constructor
  · rintro ⟨j, h1, h2⟩
    unfold losT at h2
    simp only [Bool.and_eq_true] at h2
    obtain ⟨⟨g1, g2⟩, g3, g4⟩ := h2
    have h3 : dn l (okc l D) i (j : Int) = true := g2
    unfold dn at h3
    obtain ⟨c, h4, h5⟩ := List.any_eq_true.1 h3
    have h5 := of_decide_eq_true h5
    have hca : c ∈ cm (okc l D) i ++ [i] := List.mem_append_left _ h4
    have hb := bes_all hg hi hii hca
    rw [txN_at hi, h5] at hb
    rw [hb, Bool.and_eq_true] at g3
    have h6 : ¬ c < bg l l[i].Tx := by simpa using g3.1
    have h7 := com_bg hg hi h4
    obtain ⟨it, h8, h9⟩ := List.any_eq_true.1 g4
    have h8' : it ∈ ws l l[i].Tx i := h8
    have h9' : it ∈ ws l (j : Int) i := of_decide_eq_true h9
    have hr := ws_range hg l[i].Tx (by omega) it h8'
    have e1 := (ws_mem l l[i].Tx it i (by omega)).1 h8'
    have e2 := (ws_mem l (j : Int) it i (by omega)).1 h9'
    rw [← h5, wr_stop hg hi hca] at e2
    obtain ⟨q, rfl⟩ := Int.eq_ofNat_of_zero_le hr.1
    refine ⟨c, h4, List.any_eq_true.2 ⟨q, by rw [List.mem_range']; exact ⟨q, by omega, by omega⟩, ?_⟩⟩
    unfold lostP
    rw [decide_eq_true (show bg l l[i].Tx < c by omega), e1, e2]
    rfl
  · rintro ⟨c, h1, h2⟩
    obtain ⟨q, h3, h4⟩ := List.any_eq_true.1 h2
    unfold lostP at h4
    simp only [Bool.and_eq_true, decide_eq_true_eq] at h4
    obtain ⟨⟨g1, g2⟩, g3⟩ := h4
    have hc := (cm_mem.1 h1).1
    have hr := txN_range hg (show c < l.length by omega)
    have hca : c ∈ cm (okc l D) i ++ [i] := List.mem_append_left _ h1
    have hd := dn_com (l := l) h1
    have hb := bes_all hg hi hii hca
    rw [txN_at hi] at hb
    have hbc : bg l (txN l c) ≤ i := by
      have := bg_le (show c < l.length by omega) (txN_at (show c < l.length by omega)).symm
      omega
    rw [decide_eq_false (show ¬ c < bg l l[i].Tx by omega), decide_eq_false (show ¬ i < bg l (txN l c) by omega)] at hb
    have hne : txN l c ≠ l[i].Tx := by
      intro h4
      rw [h4, dn_now hg hi] at hd
      cases hd
    refine ⟨(txN l c).toNat, by rw [List.mem_range']; exact ⟨(txN l c).toNat, by omega, by omega⟩, ?_⟩
    unfold losT
    rw [show (((txN l c).toNat : Nat) : Int) = txN l c by omega, decide_eq_false hne, hb]
    have hd' : (stU l (okc l D) i (i + 1) (txN l c)).done_ = true := hd
    rw [hd']
    have : comB (stU l (okc l D) i (i + 1) l[i].Tx).writes_ (stU l (okc l D) i (i + 1) (txN l c)).writes_ = true := by
      refine List.any_eq_true.2 ⟨(q : Int), (ws_mem l l[i].Tx q i (by omega)).2 g3, decide_eq_true ((ws_mem l (txN l c) q i (by omega)).2 ?_)⟩
      rw [wr_stop hg hi hca]
      exact g2
    rw [this]
    rfl
theorem K8_ok (G : Int → Ttx209) (o : TOp) (ho : 0 ≤ o.Tx ∧ o.Tx < 12) (q : Nat) (hq : q ≤ 1000) (gl4 : List TDid) (gx5 : Int) (go1 : GoU) (gl9 : List (List Int)) :
    m96_skew_Play_K8 gl4 gx5 go1 (tab 12 G) (q : Int) gl9 o false = m96_skew_Play_L2 ⟨(G o.Tx).began_, true, (G o.Tx).from_, ((q + 1 : Nat) : Int), (G o.Tx).reads_, (G o.Tx).writes_⟩
      (tab 12 fun j => if j = o.Tx then (⟨(G o.Tx).began_, true, (G o.Tx).from_, ((q + 1 : Nat) : Int), (G o.Tx).reads_, (G o.Tx).writes_⟩ : Ttx209) else G j) o gl4 gx5 go1 ((q + 1 : Nat) : Int) big 0 gl9 := by
  rw [m96_skew_Play_K8, if_neg ff, arrN_ok (tab_length _ _), bind1_some, isucc q (by omega), bind1_some, tab_idx ho.1 (by omega), bind1_some, tab_upd _ ho.1 (by omega), bind1_some, tab_idx ho.1 (by omega), bind1_some, tab_upd _ ho.1 (by omega), bind1_some, tab_idx ho.1 (by omega), bind1_some]
  simp only [if_true]
  congr 1
  apply tab_ext
  intro j _ _
  by_cases c : j = o.Tx
  · rw [if_pos c, if_pos c]
  · rw [if_neg c, if_neg c, if_neg c]
theorem skewLoop (l : List TOp) (hg : Good l) (D : List TDid) (hD : D.length = l.length) (hsp : ∀ j, j < l.length → D[j]? = some (sp l true (okc l D) j)) : ∀ (r i : Nat), i + r = l.length → ∀ n, r < n →
    m96_skew_Play_L1 l n (D.take i) (i : Int) (tab 12 (stU l (okc l D) i i)) (nc (okc l D) i : Int) (tab 20 (verU l (okc l D) i)) = some (D, 0) := by
  have hl := hg.len
  intro r
  induction r with
  | zero =>
    intro i hi n hn
    obtain ⟨n, rfl⟩ := dec n hn
    rw [m96_skew_Play_L1, m96_skew_Play_L1B, if_neg (by omega), m96_skew_Play_K2, List.take_of_length_le (by omega)]
  | succ r ih =>
    intro i hi n hn
    obtain ⟨n, rfl⟩ := dec n (by omega)
    have h1 : i < l.length := by omega
    have hf := hg.fine i h1
    have hlo := lost_skew hg D h1
    have hbt := btw_own hg D h1 (all_mem hg D h1)
    have hbn := fun h => beginU_new hg (D := D) h1 h
    have hnow := dn_now hg (D := D) h1
    have hdc : ∀ c ∈ cm (okc l D) i, aT l (okc l D) i (txN l c) = (nc (okc l D) c : Int) + 1 := fun c hc => aT_com hg (by omega) hc
    generalize hK : okc l D = K at *
    have hsi := hsp i h1
    have ih := ih (i + 1) (by omega) n (by omega)
    have ht0 := hf.t0
    have ht1 := hf.t1
    have hbg : bg l l[i].Tx < i + 1 := by have := bg_le h1 (k := l[i].Tx) rfl; omega
    have fin : ∀ (e : TDid) (TT : List Ttx209) (dd : Int) (WW : List (List Int)), e = sp l true K i → TT = tab 12 (stU l K (i + 1) (i + 1)) → dd = (nc K (i + 1) : Int) → WW = tab 20 (verU l K (i + 1)) →
        m96_skew_Play_K3 (D.take i) (i : Int) (m96_skew_Play_L1 l n) e.OK e.From TT dd WW = some (D, 0) := by
      intro e TT dd WW he h2 h3 h4
      have hi2 : i < D.length := by omega
      have h5 : D[i] = e := by
        have := hsi
        rw [List.getElem?_eq_getElem hi2, Option.some.injEq] at this
        rw [this, he]
      rw [m96_skew_Play_K3, app_ok (by rw [List.length_take]; simp; omega), bind1_some, isucc i (by omega), bind1_some, h2, h3, h4]
      have h6 : D.take i ++ [(⟨e.OK, e.From⟩ : TDid)] = D.take (i + 1) := by rw [take_snoc hi2, h5]
      rw [h6]
      exact ih
    have hs : sp l true K i = if l[i].Kind = 1 then ⟨true, sfrom l K i l[i]⟩ else if l[i].Kind = 3 then ⟨!lostB l K i l[i].Tx && !(true && btw l K i), -1⟩ else ⟨true, -1⟩ := by rw [sp, opN_at h1]
    have hKi : K i = (decide (l[i].Kind = 3) && (sp l true K i).OK) := by rw [← hK]; rw [← hK] at hsi; exact okc_now h1 hsi
    have wsl := ws_len l l[i].Tx i
    have rsl := rs_len l l[i].Tx i
    have hrl : ∀ a, (stU l K i (i + 1) a).reads_.length ≤ 200 ∧ (stU l K i (i + 1) a).writes_.length ≤ 200 := fun a => ⟨Nat.le_trans (rs_len l a i) (by omega), Nat.le_trans (ws_len l a i) (by omega)⟩
    have main : m96_skew_Play_K4 l[i] (D.take i) (i : Int) (m96_skew_Play_L1 l n) (nc K i : Int) (tab 20 (verU l K i)) (tab 12 (stU l K i (i + 1))) = some (D, 0) := by
      have kx := opKinds hg h1
      have hT := tab_idx (f := stU l K i (i + 1)) ht0 (show l[i].Tx < (12 : Nat) by omega)
      have hTA := tab_idxA (f := stU l K i (i + 1)) ht0 (show l[i].Tx < (12 : Nat) by omega)
      have nov : K i = false → tab 20 (verU l K i) = tab 20 (verU l K (i + 1)) ∧ (nc K i : Int) = (nc K (i + 1) : Int) ∧ ∀ j, dn l K (i + 1) j = dn l K i j ∧ aT l K (i + 1) j = aT l K i j := by
        intro hk
        refine ⟨tab_ext fun it _ _ => ?_, ?_, fun j => ⟨?_, ?_⟩⟩
        · rw [verU_succ, if_neg (by simp [hk])]
        · rw [nc_succ, hk]; simp
        · rw [dn_succ, hk]; simp
        · exact aT_same l K i j (by simp [hk])
      have noT : K i = false → l[i].Kind ≠ 1 → l[i].Kind ≠ 2 → tab 12 (stU l K i (i + 1)) = tab 12 (stU l K (i + 1) (i + 1)) := by
        intro hk hk1 hk2
        apply tab_ext
        intro j _ _
        unfold stU
        rw [ws_same h1 hk2, rs_same h1 hk1, ((nov hk).2.2 j).1, ((nov hk).2.2 j).2]
      rw [m96_skew_Play_K4]
      by_cases c1 : l[i].Kind = 1
      · -- Read
        have hk0 : K i = false := by rw [hKi]; simp [c1]
        have hnv := nov hk0
        rw [if_pos c1, m96_skew_Play_K6, if_pos rfl, hT, bind1_some, contains_eq _ _ (by show (ws l l[i].Tx i).length ≤ _; omega), bind1_some]
        have hwr : decide (l[i].Item ∈ (stU l K i (i + 1) l[i].Tx).writes_) = wrB l i l[i].Tx l[i].Item := by
          rw [Bool.eq_iff_iff, decide_eq_true_iff]
          exact ws_mem l l[i].Tx l[i].Item i (by omega)
        have hmem := ws_mem l l[i].Tx l[i].Item i (by omega)
        rw [hwr]
        rw [if_pos c1, sfrom] at hs
        by_cases c2 : wrB l i l[i].Tx l[i].Item = true
        · rw [if_pos c2] at hs
          rw [if_pos c2, m96_skew_Play_K41, m96_skew_Play_K5]
          refine fin ⟨true, l[i].Tx⟩ _ _ _ hs.symm ?_ hnv.2.1 hnv.1
          apply tab_ext
          intro j _ _
          have er : rs l j (i + 1) = rs l j i := by
            rw [rs, opN_at h1, if_neg (by
              rintro ⟨_, h5, h6, _⟩
              rw [← h5] at h6
              exact h6 (hmem.2 c2))]
          unfold stU
          rw [ws_same h1 (by omega), (hnv.2.2 j).1, (hnv.2.2 j).2, er]
        · rw [if_neg c2] at hs
          rw [if_neg c2, m96_skew_Play_K42, hT, bind1_some, contains_eq _ _ (by show (rs l l[i].Tx i).length ≤ _; omega), bind1_some, bind1_some]
          have hK43 : ∀ G : Int → Ttx209, (∀ a, (G a).at_ = aT l K i a) → (G l[i].Tx).from_ = (nc K (bg l l[i].Tx) : Int) → tab 12 G = tab 12 (stU l K (i + 1) (i + 1)) →
              m96_skew_Play_K43 (tab 20 (verU l K i)) l[i] (D.take i) (i : Int) (m96_skew_Play_L1 l n) (nc K i : Int) (tab 12 G) = some (D, 0) := by
            intro G hG1 hG2 hG3
            have hvl := verU_len l K i l[i].Item
            have h3 := readULoop (verU l K i l[i].Item) (by omega) (fun w hw => by
              obtain ⟨c, h5, rfl⟩ := List.mem_map.1 hw
              have := (cm_mem.1 (List.mem_filter.1 h5).1).1
              exact txN_range hg (by omega)) G l[i] ⟨ht0, ht1⟩ (D.take i) (i : Int) (m96_skew_Play_L1 l n) (nc K i : Int) (tab 20 (verU l K i)) (verU l K i l[i].Item).length 0 (by omega) big (lt_big (by omega)) (-1)
            rw [show ((0 : Nat) : Int) = 0 from rfl, List.drop_zero] at h3
            rw [m96_skew_Play_K43, tab_idxA hf.i0 (by have := hf.i1; omega), bind1_some, arrN_ok (tab_length _ _), bind1_some, h3, m96_skew_Play_K44, m96_skew_Play_K41, m96_skew_Play_K5]
            have h4 := fold_verU l K l[i] (fun w => (G w).at_) (cm K i) (-1) (fun c hc => ⟨(cm_mem.1 hc).2, by rw [hG1]; exact hdc c hc⟩)
            have h5 : (verU l K i l[i].Item).foldl (fun out w => if (G w).at_ ≤ (G l[i].Tx).from_ then w else out) (-1) = (cm K i).foldl (fromG l l[i]) (-1) := by rw [hG2]; exact h4
            rw [h5]
            exact fin ⟨true, (cm K i).foldl (fromG l l[i]) (-1)⟩ _ _ _ hs.symm hG3 hnv.2.1 hnv.1
          have nw : l[i].Item ∉ ws l l[i].Tx i := fun h => c2 (hmem.1 h)
          by_cases c3 : l[i].Item ∈ rs l l[i].Tx i
          · rw [if_pos (show decide (l[i].Item ∈ (stU l K i (i + 1) l[i].Tx).reads_) = true from decide_eq_true c3)]
            refine hK43 _ (fun a => rfl) (if_pos hbg) ?_
            apply tab_ext
            intro j _ _
            have er : rs l j (i + 1) = rs l j i := by
              rw [rs, opN_at h1, if_neg (by
                rintro ⟨_, h5, _, h6⟩
                rw [← h5] at h6
                exact h6 c3)]
            unfold stU
            rw [ws_same h1 (by omega), (hnv.2.2 j).1, (hnv.2.2 j).2, er]
          · rw [if_neg (show ¬ decide (l[i].Item ∈ (stU l K i (i + 1) l[i].Tx).reads_) = true from by rw [decide_eq_true_iff]; exact c3), app_ok (by show (rs l l[i].Tx i).length + _ ≤ _; simp; omega), bind1_some, bind1_some, tab_upd _ ht0 (by omega), bind1_some]
            refine hK43 _ (fun a => ?_) ?_ ?_
            · split
              · rename_i e; rw [e]; rfl
              · rfl
            · rw [if_pos rfl]; exact if_pos hbg
            · apply tab_ext
              intro j _ _
              by_cases c4 : j = l[i].Tx
              · have er : rs l l[i].Tx (i + 1) = rs l l[i].Tx i ++ [l[i].Item] := by rw [rs, opN_at h1, if_pos ⟨c1, rfl, nw, c3⟩]
                rw [if_pos c4, c4]
                unfold stU
                rw [ws_same h1 (by omega), (hnv.2.2 l[i].Tx).1, (hnv.2.2 l[i].Tx).2, er]
              · have er : rs l j (i + 1) = rs l j i := by rw [rs, opN_at h1, if_neg (fun h => c4 h.2.1.symm)]
                rw [if_neg c4]
                unfold stU
                rw [ws_same h1 (by omega), (hnv.2.2 j).1, (hnv.2.2 j).2, er]
      · rw [if_neg c1, m96_skew_Play_K6, if_neg ff]
        rw [if_neg c1] at hs
        by_cases c2 : l[i].Kind = 2
        · -- Write
          have hk0 : K i = false := by rw [hKi]; simp [c2]
          have hnv := nov hk0
          rw [if_pos c2, m96_skew_Play_K7, if_pos rfl, hT, bind1_some, contains_eq _ _ (by show (ws l l[i].Tx i).length ≤ _; omega), bind1_some]
          rw [if_neg (by omega)] at hs
          simp only [m96_skew_Play_K5]
          by_cases c3 : l[i].Item ∈ ws l l[i].Tx i
          · rw [if_pos (show decide (l[i].Item ∈ (stU l K i (i + 1) l[i].Tx).writes_) = true from decide_eq_true c3)]
            refine fin ⟨true, -1⟩ _ _ _ hs.symm ?_ hnv.2.1 hnv.1
            apply tab_ext
            intro j _ _
            have ew : ws l j (i + 1) = ws l j i := by
              rw [ws, opN_at h1, if_neg (by
                rintro ⟨_, h5, h6⟩
                rw [← h5] at h6
                exact h6 c3)]
            unfold stU
            rw [rs_same h1 c1, (hnv.2.2 j).1, (hnv.2.2 j).2, ew]
          · rw [if_neg (show ¬ decide (l[i].Item ∈ (stU l K i (i + 1) l[i].Tx).writes_) = true from by rw [decide_eq_true_iff]; exact c3)]
            simp only [bind1_some]
            rw [app_ok (by show (ws l l[i].Tx i).length + _ ≤ _; simp; omega), bind1_some, tab_upd _ ht0 (by omega), bind1_some]
            refine fin ⟨true, -1⟩ _ _ _ hs.symm ?_ hnv.2.1 hnv.1
            apply tab_ext
            intro j _ _
            by_cases c4 : j = l[i].Tx
            · have ew : ws l l[i].Tx (i + 1) = ws l l[i].Tx i ++ [l[i].Item] := by rw [ws, opN_at h1, if_pos ⟨c2, rfl, c3⟩]
              rw [if_pos c4, c4]
              unfold stU
              rw [rs_same h1 c1, (hnv.2.2 l[i].Tx).1, (hnv.2.2 l[i].Tx).2, ew]
            · have ew : ws l j (i + 1) = ws l j i := by rw [ws, opN_at h1, if_neg (fun h => c4 h.2.1.symm)]
              rw [if_neg c4]
              unfold stU
              rw [rs_same h1 c1, (hnv.2.2 j).1, (hnv.2.2 j).2, ew]
        · rw [if_neg c2, m96_skew_Play_K7, if_neg ff]
          by_cases c3 : l[i].Kind = 3
          · -- Commit
            rw [if_pos c3] at hs
            have h3 := L8_eq (stU l K i (i + 1)) hrl l[i] ⟨ht0, ht1⟩ (D.take i) (i : Int) (m96_skew_Play_L1 l n) (nc K i : Int) (tab 20 (verU l K i)) 12 0 (by omega) big (lt_big (by omega)) [] (by simp)
            rw [show ((0 : Nat) : Int) = 0 from rfl, hlo] at h3
            rw [if_pos c3, hTA, bind1_some, h3]
            have bad : (sp l true K i) = ⟨false, -1⟩ → m96_skew_Play_K8 (D.take i) (i : Int) (m96_skew_Play_L1 l n) (tab 12 (stU l K i (i + 1))) (nc K i : Int) (tab 20 (verU l K i)) l[i] true = some (D, 0) := by
              intro hs
              have hk0 : K i = false := by rw [hKi, hs]; simp
              have hnv := nov hk0
              rw [m96_skew_Play_K8, if_pos rfl]
              exact fin ⟨false, -1⟩ _ _ _ hs.symm (noT hk0 c1 c2) hnv.2.1 hnv.1
            by_cases c4 : lostB l K i l[i].Tx = true
            · rw [if_pos c4]
              exact bad (by rw [hs, c4]; rfl)
            · simp only [Bool.not_eq_true] at c4
              have hal : ∀ a ∈ ints ((List.range' 0 12).filter (donT (stU l K i (i + 1)) l[i].Tx)) ++ [l[i].Tx], 0 ≤ a ∧ a < 12 := by
                intro a ha
                rcases List.mem_append.1 ha with h | h
                · obtain ⟨j, h5, rfl⟩ := List.mem_map.1 h
                  obtain ⟨q, h6, h7⟩ := List.mem_range'.1 (List.mem_filter.1 h5).1
                  omega
                · have : a = l[i].Tx := by simpa using h
                  omega
              have hll : (ints ((List.range' 0 12).filter (donT (stU l K i (i + 1)) l[i].Tx))).length ≤ 12 := by
                rw [ints_len]
                have := List.length_filter_le (donT (stU l K i (i + 1)) l[i].Tx) (List.range' 0 12)
                rwa [List.length_range'] at this
              generalize ints ((List.range' 0 12).filter (donT (stU l K i (i + 1)) l[i].Tx)) = z at *
              have h5 := L3_eq (stU l K i (i + 1)) hrl (z ++ [l[i].Tx]) hal (by simp; omega) (D.take i) (i : Int) (m96_skew_Play_L1 l n) (nc K i : Int) (tab 20 (verU l K i)) l[i] (z ++ [l[i].Tx]).length 0 (by omega) big (lt_big (by simp; omega))
              rw [show ((0 : Nat) : Int) = 0 from rfl, List.drop_zero, hbt] at h5
              rw [if_neg (by simp [c4]), m96_skew_Play_K9, List.nil_append, app_ok (by simp; omega), bind1_some, h5]
              by_cases c5 : btw l K i = true
              · rw [c5]
                exact bad (by rw [hs, c5]; simp)
              · simp only [Bool.not_eq_true] at c5
                rw [c4, c5] at hs
                have hk1 : K i = true := by rw [hKi, hs]; simp [c3]
                have h6 := addULoop (ws l l[i].Tx i) (ws_range hg l[i].Tx (by omega)) (ws_nodup l l[i].Tx i) (by omega) l[i] ((nc K i + 1 : Nat) : Int) ⟨(stU l K i (i + 1) l[i].Tx).began_, true, (stU l K i (i + 1) l[i].Tx).from_, ((nc K i + 1 : Nat) : Int), (stU l K i (i + 1) l[i].Tx).reads_, (stU l K i (i + 1) l[i].Tx).writes_⟩ rfl (D.take i) (i : Int) (m96_skew_Play_L1 l n)
                  (fun j => if j = l[i].Tx then (⟨(stU l K i (i + 1) l[i].Tx).began_, true, (stU l K i (i + 1) l[i].Tx).from_, ((nc K i + 1 : Nat) : Int), (stU l K i (i + 1) l[i].Tx).reads_, (stU l K i (i + 1) l[i].Tx).writes_⟩ : Ttx209) else stU l K i (i + 1) j)
                  (ws l l[i].Tx i).length 0 (by omega) big (lt_big (by omega)) (verU l K i) (fun it => by have := verU_len l K i it; omega)
                rw [show ((0 : Nat) : Int) = 0 from rfl, List.drop_zero] at h6
                rw [c5, K8_ok _ _ ⟨ht0, ht1⟩ _ (by have := nc_le K i; omega), h6, m96_skew_Play_K5]
                refine fin ⟨true, -1⟩ _ _ _ hs.symm ?_ (by rw [nc_succ, if_pos hk1]) ?_
                · apply tab_ext
                  intro j _ _
                  by_cases c6 : j = l[i].Tx
                  · rw [if_pos c6, c6]
                    have e1 : dn l K (i + 1) l[i].Tx = true := by rw [dn_succ, hk1, txN_at h1]; simp
                    have e2 : aT l K (i + 1) l[i].Tx = (nc K i : Int) + 1 := by rw [aT_succ l K i _ hnow, if_pos ⟨hk1, txN_at h1⟩]
                    unfold stU
                    rw [ws_same h1 c2, rs_same h1 c1, e1, e2]
                    rfl
                  · rw [if_neg c6]
                    have hne : ¬ txN l i = j := by rw [txN_at h1]; exact fun h => c6 h.symm
                    unfold stU
                    rw [ws_same h1 c2, rs_same h1 c1, dn_succ, aT_same l K i j (fun h => hne h.2), decide_eq_false hne, Bool.and_false, Bool.or_false]
                · apply tab_ext
                  intro it _ _
                  rw [verU_succ, txN_at h1]
                  by_cases c6 : wrB l i l[i].Tx it = true
                  · rw [if_pos ((ws_mem l l[i].Tx it i (by omega)).2 c6), if_pos ⟨hk1, c6⟩]
                  · rw [if_neg (fun h => c6 ((ws_mem l l[i].Tx it i (by omega)).1 h)), if_neg (fun h => c6 h.2)]
          · -- Abort
            have hk0 : K i = false := by rw [hKi]; simp [c3]
            have hnv := nov hk0
            rw [if_neg c3] at hs
            rw [if_neg c3, m96_skew_Play_K5]
            exact fin ⟨true, -1⟩ _ _ _ hs.symm (noT hk0 c1 c2) hnv.2.1 hnv.1
    rw [m96_skew_Play_L1, m96_skew_Play_L1B, if_pos (by omega), idx_ok h1, bind1_some, tab_idxA ht0 (by omega), bind1_some]
    by_cases cb : bg l l[i].Tx < i
    · rw [if_pos (show (stU l K i i l[i].Tx).began_ = true from decide_eq_true cb), beginU_same h1 cb]
      exact main
    · rw [if_neg (show ¬ (stU l K i i l[i].Tx).began_ = true from by rw [stU]; simpa using cb), arrN_ok (tab_length _ _), bind1_some, tab_upd _ ht0 (by omega), bind1_some, hbn cb]
      exact main
theorem skew_eq (l : List TOp) (hg : Good l) (D : List TDid) (hD : D.length = l.length) (hsp : ∀ j, j < l.length → D[j]? = some (sp l true (okc l D) j)) : m96_skew_Play_K1 l = some (D, 0) := by
  have h := skewLoop l hg D hD hsp l.length 0 (by omega) big (lt_big (by have := hg.len; omega))
  rw [m96_skew_Play_K1, tab_repl, tab_repl]
  have e1 : tab 12 (fun _ => (⟨false, false, 0, 0, [], []⟩ : Ttx209)) = tab 12 (stU l (okc l D) 0 0) := by
    apply tab_ext
    intro j _ _
    simp [stU, ws, rs, dn, aT, cm]
  have e2 : tab 20 (fun _ => ([] : List Int)) = tab 20 (verU l (okc l D) 0) := rfl
  rw [e1, e2]
  exact h
theorem didsLoop (a : List TDid) (hl : a.length ≤ 1000000) : ∀ (r i : Nat), i + r = a.length → ∀ n, r < n → m97_api_Did_L1 a a n (i : Int) = some true := by
  intro r
  induction r with
  | zero =>
    intro i hi n hn
    obtain ⟨n, rfl⟩ := dec n hn
    rw [m97_api_Did_L1, m97_api_Did_L1B, if_neg (by omega)]
    rfl
  | succ r ih =>
    intro i hi n hn
    obtain ⟨n, rfl⟩ := dec n (by omega)
    have h1 : i < a.length := by omega
    rw [m97_api_Did_L1, m97_api_Did_L1B, if_pos (by omega), idx_ok h1, bind1_some, bind1_some, if_neg (by simp), isucc i (by omega), bind1_some, ih (i + 1) (by omega) n (by omega)]
theorem dids_eq (a : List TDid) (hl : a.length ≤ 1000000) : m97_api_Did a a = some true := by
  rw [m97_api_Did, if_neg (by simp), m97_api_Did_K1]
  exact didsLoop a hl a.length 0 (by omega) big (lt_big (by omega))
theorem snaps_true (l : List TOp) : m14_quirlaw_SnapPlays l = some true := by
  obtain ⟨e, h1, h2, h3⟩ := run_eq l
  rw [m14_quirlaw_SnapPlays, m95_snap_Play, m96_skew_Play, h2, h1]
  simp only [bind1_some]
  by_cases c : e = 0
  · have hg := h3 c
    obtain ⟨D, g1, g2, g3⟩ := ref_snap l hg false
    obtain ⟨E, k1, k2, k3⟩ := ref_snap l hg true
    have hl := hg.len
    rw [if_neg (by simpa using c), if_neg (by simpa using c), snap_eq l hg D g2 g3, skew_eq l hg E k2 k3]
    simp only [bind2_some]
    rw [if_neg (by simpa using c), m14_quirlaw_SnapPlays_K1, g1, bind1_some, dids_eq D (by omega), bind1_some, if_pos rfl, if_pos rfl, m14_quirlaw_SnapPlays_K2, if_pos rfl, k1, bind1_some, dids_eq E (by omega), bind1_some, if_pos rfl]
    rfl
  · rw [if_pos c, if_pos c]
    simp only [bind2_some]
    rw [if_pos c]
    simp [m14_quirlaw_SnapPlays_K3]
end Go.Proofs.Ytfmgjigdebofaaa
