/-
  What kind of run one is; and the law.
  Conditions: none.
-/
import Derived.Test.YtkhlapdkomnldaaRuK
namespace Go.Proofs.Ytkhlapdkomnldaa
open Go.S
set_option linter.unusedVariables false
set_option linter.unusedSimpArgs false

theorem filter_map_tx (l : List TOp) (t : Int) : ∀ s : List Int, (∀ v ∈ s, ∃ j : Nat, v = (j : Int) ∧ j < l.length) → (s.filter (keep l t)).map (txAt l) = (s.map (txAt l)).filter fun v => !decide (v = t)
  | [], _ => rfl
  | v :: s, h => by
    obtain ⟨j, hj, hjl⟩ := h v (by simp)
    have hk : keep l t v = !decide (txAt l v = t) := by
      rw [hj, txAt_ok hjl]
      unfold keep
      rw [idx_ok hjl]
    have ih := filter_map_tx l t s fun u hu => h u (by simp [hu])
    rw [List.filter_cons, List.map_cons, List.filter_cons, hk]
    by_cases c : txAt l v = t
    · rw [if_neg (by simp [c]), if_neg (by simp [c]), ih]
    · rw [if_pos (by simp [c]), if_pos (by simp [c]), List.map_cons, ih]
theorem kindsLoop (l : List TOp) (hg : Good l) : ∀ (r i : Nat), i + r = l.length → ∀ (b1 b2 b3 : Bool) n n', r < n → r < n' →
    ∃ k, m11_run_Kinds_L1 l n (i : Int) (tab 12 (rds l i)) (tab 20 (wl l i)) (tab 12 (stt (l.take i))) b1 b2 b3 = some (k, 0) ∧ m17_quirref_Kinds_L1 l n' (i : Int) b1 b2 b3 = some k := by
  have hl := hg.len
  intro r
  induction r with
  | zero =>
    intro i hi b1 b2 b3 n n' hn hn'
    obtain ⟨n, rfl⟩ := dec n hn
    obtain ⟨n', rfl⟩ := dec n' hn'
    rw [m11_run_Kinds_L1, m11_run_Kinds_L1B, m17_quirref_Kinds_L1, m17_quirref_Kinds_L1B, if_neg (by omega), if_neg (by omega), m11_run_Kinds_K2, m17_quirref_Kinds_K1]
    exact ⟨_, rfl, rfl⟩
  | succ r ih =>
    intro i hi b1 b2 b3 n n' hn hn'
    obtain ⟨n, rfl⟩ := dec n (by omega)
    obtain ⟨n', rfl⟩ := dec n' (by omega)
    have h1 : i < l.length := by omega
    have hf := hg.fine i h1
    have hsn := take_snoc h1
    rw [m11_run_Kinds_L1, m11_run_Kinds_L1B, m17_quirref_Kinds_L1, m17_quirref_Kinds_L1B, if_pos (by omega), if_pos (by omega), idx_ok h1, bind1_some, bind1_some]
    generalize hoo : l[i] = o at hf hsn
    have hoi : l[i]? = some o := by rw [List.getElem?_eq_getElem h1, hoo]
    have hen : ∀ k t, (k = 3 ∨ k = 4) → en (l.take (i + 1)) k t = (en (l.take i) k t || (decide (o.Kind = k) && decide (o.Tx = t))) := fun k t hk => by
      rw [hsn]
      exact en_snoc _ _ _ _ fun h => hf.item (by omega)
    have hopen : en (l.take i) 3 o.Tx = false ∧ en (l.take i) 4 o.Tx = false := by
      have := hf.open'
      unfold ended at this
      rw [List.any_eq_false] at this
      constructor
      · refine decide_eq_false fun h => ?_
        have := this _ h
        simp at this
      · refine decide_eq_false fun h => ?_
        have := this _ h
        simp at this
    have hwi : ∀ p x, wrt l p x i = (decide (o.Kind = 2) && decide (o.Item = x) && !decide ((⟨o.Tx, 4, 0⟩ : TOp) ∈ p)) := by
      intro p x
      unfold wrt
      rw [hoi]
    have hsame : o.Kind ≠ 4 → ∀ t : Int, (⟨t, 4, 0⟩ : TOp) ∈ l.take (i + 1) ↔ (⟨t, 4, 0⟩ : TOp) ∈ l.take i := by
      intro h4 t
      rw [hsn, List.mem_append, List.mem_singleton]
      constructor
      · rintro (h | h)
        · exact h
        · rw [← h] at h4; exact absurd rfl h4
      · exact Or.inl
    have hwl : o.Kind ≠ 4 → ∀ x, wl l (i + 1) x = wl l i x ++ if o.Kind = 2 ∧ o.Item = x then [o.Tx] else [] := by
      intro h4 x
      unfold wl
      rw [live_succ, hwi, live_same (hsame h4), List.map_append]
      congr 1
      have : decide ((⟨o.Tx, 4, 0⟩ : TOp) ∈ l.take (i + 1)) = false := decide_eq_false (by rw [hsame h4]; exact of_decide_eq_false hopen.2)
      rw [this]
      by_cases c : o.Kind = 2 ∧ o.Item = x
      · rw [if_pos (by simp [c.1, c.2]), if_pos c, List.map_cons, List.map_nil, txAt_ok h1, hoo]
      · rw [if_neg (by simpa using c), if_neg c, List.map_nil]
    have hrd : ∀ t, rds l (i + 1) t = rds l i t ++ if o.Tx = t ∧ o.Kind = 1 ∧ 0 ≤ wr l (l.take i) o.Item i ∧ txAt l (wr l (l.take i) o.Item i) ≠ t then [txAt l (wr l (l.take i) o.Item i)] else [] := by
      intro t
      rw [rds, rd1, hoi]
    have hrd0 : o.Kind ≠ 1 → tab 12 (rds l i) = tab 12 (rds l (i + 1)) := fun h => tab_ext fun t _ _ => by rw [hrd, if_neg (by simp [h]), List.append_nil]
    have hst0 : o.Kind ≠ 3 → o.Kind ≠ 4 → tab 12 (stt (l.take i)) = tab 12 (stt (l.take (i + 1))) := fun h3 h4 => tab_ext fun t _ _ => by
      unfold stt
      rw [hen 3 t (.inl rfl), hen 4 t (.inr rfl), decide_eq_false h3, decide_eq_false h4, Bool.false_and, Bool.or_false, Bool.or_false]
    by_cases c3 : o.Kind = 3
    · -- a Commit
      have h2 := refCom l hg i h1 o (m17_quirref_Kinds_L1 l n') b2 b3 b1 i 0 (by omega) big (lt_big (by omega))
      rw [rds, List.all_nil, Bool.and_true, show ((0 : Nat) : Int) = 0 from rfl] at h2
      have hrl := rds_len l o.Tx i
      have h3 := comLoop l i o (rds l i o.Tx) (rds_in l hg o.Tx i (by omega)) (by omega) (m11_run_Kinds_L1 l n) (tab 12 (rds l i)) (tab 20 (wl l i)) b2 b3 (rds l i o.Tx).length 0 (by omega) b1 big (lt_big (by omega))
      rw [show ((0 : Nat) : Int) = 0 from rfl, List.drop_zero] at h3
      have hwn : tab 20 (wl l i) = tab 20 (wl l (i + 1)) := tab_ext fun x _ _ => by rw [hwl (by omega), if_neg (by omega), List.append_nil]
      have hsn' : (tab 12 fun j => if j = o.Tx then (3 : Int) else stt (l.take i) j) = tab 12 (stt (l.take (i + 1))) := tab_ext fun t _ _ => by
        unfold stt
        rw [hen 3 t (.inl rfl), hen 4 t (.inr rfl), decide_eq_true c3, Bool.true_and]
        by_cases q : t = o.Tx
        · rw [if_pos q, decide_eq_true q.symm, Bool.or_true, if_pos rfl]
        · rw [if_neg q, decide_eq_false (Ne.symm q), Bool.or_false, decide_eq_false (show ¬o.Kind = 4 by omega), Bool.false_and, Bool.or_false]
      rw [if_pos c3, if_pos c3, cut_take l i (by omega), bind1_some, h2, m17_quirref_Kinds_K3, if_pos (by omega), m17_quirref_Kinds_K2, m11_run_Kinds_K4, if_pos rfl, tab_idxA hf.t0 hf.t1, bind1_some, h3, m11_run_Kinds_K18, tab_idxA hf.t0 hf.t1, bind1_some, tab_upd _ hf.t0 hf.t1, bind1_some, m11_run_Kinds_K3, isucc i (by omega), bind1_some, bind1_some, hsn', hwn, hrd0 (by omega)]
      exact ih (i + 1) (by omega) _ b2 b3 n n' (by omega) (by omega)
    rw [if_neg c3, if_neg c3, m11_run_Kinds_K4, if_neg ff, m17_quirref_Kinds_K3]
    by_cases c4 : o.Kind = 4
    · -- an Abort
      have hit := hf.item (by omega)
      have heo : o = ⟨o.Tx, 4, 0⟩ := by rw [← c4, ← hit]
      have hd := kdelAll o (i : Int) (m11_run_Kinds_L1 l n) (tab 12 (rds l i)) (tab 12 fun j => if j = o.Tx then (4 : Int) else stt (l.take i) j) b1 b2 b3 (wl l i) (fun x => by have := wl_len l i x; omega) 20 0 (by omega) big (lt_big (by omega))
      have h0 : (tab 20 fun x => if x < ((0 : Nat) : Int) then (wl l i x).filter (fun v => !decide (v = o.Tx)) else wl l i x) = tab 20 (wl l i) := tab_ext fun x h _ => by rw [if_neg (by omega)]
      rw [h0, show ((0 : Nat) : Int) = 0 from rfl] at hd
      have hwn : (tab 20 fun x => (wl l i x).filter fun v => !decide (v = o.Tx)) = tab 20 (wl l (i + 1)) := tab_ext fun x _ _ => by
        unfold wl
        rw [live_succ, hwi, hsn, heo, live_gone, ← heo]
        rw [show (decide (o.Kind = 2)) = false from decide_eq_false (by omega), Bool.false_and, Bool.false_and, if_neg ff, List.append_nil]
        exact (filter_map_tx l o.Tx _ fun v hv => by obtain ⟨j, g1, _, g3⟩ := live_mem hv; exact ⟨j, g1, g3⟩).symm
      have hsn' : (tab 12 fun j => if j = o.Tx then (4 : Int) else stt (l.take i) j) = tab 12 (stt (l.take (i + 1))) := tab_ext fun t _ _ => by
        unfold stt
        rw [hen 3 t (.inl rfl), hen 4 t (.inr rfl), decide_eq_false c3, Bool.false_and, Bool.or_false, decide_eq_true c4, Bool.true_and]
        by_cases q : t = o.Tx
        · rw [if_pos q, decide_eq_true q.symm, Bool.or_true, q, hopen.1, if_neg ff, if_pos rfl]
        · rw [if_neg q, decide_eq_false (Ne.symm q), Bool.or_false]
      rw [if_pos c4, if_pos (by omega), m17_quirref_Kinds_K2, m11_run_Kinds_K5, if_pos rfl, tab_idxA hf.t0 hf.t1, bind1_some, tab_upd _ hf.t0 hf.t1, bind1_some, hd, hwn, hsn', m11_run_Kinds_K3, isucc i (by omega), bind1_some, bind1_some, hrd0 (by omega)]
      exact ih (i + 1) (by omega) b1 b2 b3 n n' (by omega) (by omega)
    have hk12 : o.Kind = 1 ∨ o.Kind = 2 := by have := hf.k0; have := hf.k1; omega
    have hwll := wl_len l i o.Item
    -- behind the flags: a write is noted
    have hK6 : ∀ c s, (∃ k, m11_run_Kinds_L1 l n ((i + 1 : Nat) : Int) (tab 12 (rds l (i + 1))) (tab 20 (wl l (i + 1))) (tab 12 (stt (l.take (i + 1)))) b1 c s = some (k, 0) ∧ m17_quirref_Kinds_L1 l n' ((i + 1 : Nat) : Int) b1 c s = some k) →
        ∃ k, m11_run_Kinds_K6 o (tab 20 (wl l i)) (i : Int) (m11_run_Kinds_L1 l n) (tab 12 (stt (l.take i))) b1 (tab 12 (rds l (i + 1))) c s = some (k, 0) ∧ m17_quirref_Kinds_K2 (i : Int) (m17_quirref_Kinds_L1 l n') b1 c s = some k := by
      rintro c s ⟨k, h2, h3⟩
      refine ⟨k, ?_, by rw [m17_quirref_Kinds_K2, isucc i (by omega), bind1_some, h3]⟩
      rw [m11_run_Kinds_K6]
      by_cases c2 : o.Kind = 2
      · have hwn : (tab 20 fun x => if x = o.Item then wl l i o.Item ++ [o.Tx] else wl l i x) = tab 20 (wl l (i + 1)) := tab_ext fun x _ _ => by
          rw [hwl (by omega)]
          by_cases q : x = o.Item
          · rw [if_pos q, if_pos ⟨c2, q.symm⟩, q]
          · rw [if_neg q, if_neg (fun h => q h.2.symm), List.append_nil]
        rw [if_pos c2, tab_idxA hf.i0 hf.i1, bind1_some, app_ok (by simp; omega), bind1_some, bind1_some, tab_upd _ hf.i0 hf.i1, bind1_some, hwn, m11_run_Kinds_K3, isucc i (by omega), bind1_some, hst0 c3 c4, h2]
      · have hwn : tab 20 (wl l i) = tab 20 (wl l (i + 1)) := tab_ext fun x _ _ => by rw [hwl (by omega), if_neg (fun h => c2 h.1), List.append_nil]
        rw [if_neg c2, m11_run_Kinds_K3, isucc i (by omega), bind1_some, hst0 c3 c4, hwn, h2]
    rw [if_neg c4, if_neg (by omega), m17_quirref_Kinds_K4, writer_eq l i o.Item hl (by omega), bind1_some, m11_run_Kinds_K5, if_neg ff, tab_idxA hf.i0 hf.i1, bind1_some]
    rcases wl_last l (show i ≤ l.length by omega) o.Item with ⟨w1, w2⟩ | ⟨w1, w2, w3⟩
    · rw [w1, if_neg (by simp), if_pos (by omega)]
      have hrn : tab 12 (rds l i) = tab 12 (rds l (i + 1)) := tab_ext fun t _ _ => by rw [hrd, if_neg (by omega), List.append_nil]
      rw [hrn]
      exact hK6 b2 b3 (ih (i + 1) (by omega) b1 b2 b3 n n' (by omega) (by omega))
    · obtain ⟨p, p1, p2, p3, p4⟩ := wr_has l (show i ≤ l.length by omega) o.Item w2
      have hlast : idx (wl l i o.Item) (((wl l i o.Item).length - 1 : Nat) : Int) = some p.Tx := by rw [idx_nat, w3, p2]
      rw [if_pos (by omega), if_neg (by omega), p1, bind1_some, bind1_some, ipred _ w1 (by omega), bind1_some, hlast, bind1_some]
      by_cases c5 : p.Tx = o.Tx
      · have hrn : tab 12 (rds l i) = tab 12 (rds l (i + 1)) := tab_ext fun t _ _ => by
          rw [hrd, if_neg ?_, List.append_nil]
          rintro ⟨q1, _, _, q4⟩
          rw [p2, c5] at q4
          exact q4 q1
        have hgo := hK6 b2 b3 (ih (i + 1) (by omega) b1 b2 b3 n n' (by omega) (by omega))
        rw [if_pos c5, if_neg (by simp [c5]), m11_run_Kinds_K7]
        rw [← hrn] at hgo
        cases b3 with
        | true =>
          rw [if_pos rfl, m11_run_Kinds_K8]
          by_cases c1 : o.Kind = 1
          · rw [if_pos c1, if_neg (by simp [c5])]; exact hgo
          · rw [if_neg c1]; exact hgo
        | false =>
          rw [if_neg ff, m11_run_Kinds_K8]
          by_cases c1 : o.Kind = 1
          · rw [if_pos c1, if_neg (by simp [c5])]; exact hgo
          · rw [if_neg c1]; exact hgo
      · obtain ⟨j, hj, hpj⟩ := List.getElem_of_mem p3
        have hpt : 0 ≤ p.Tx ∧ p.Tx < 12 := by rw [← hpj]; exact ⟨(hg.fine j hj).t0, (hg.fine j hj).t1⟩
        have hop : decide (stt (l.take i) p.Tx = 0) = !en (l.take i) 3 p.Tx := by
          unfold stt
          rw [p4, if_neg ff]
          cases en (l.take i) 3 p.Tx <;> simp
        rw [if_neg c5, if_pos c5, m17_quirref_Kinds_K5, cut_take l i (by omega), bind1_some, p1, bind1_some, has_eq _ _ _ (by rw [List.length_take]; omega), bind1_some, tab_idxA hpt.1 hpt.2, bind1_some, hop]
        show ∃ k, m11_run_Kinds_K7 b3 o p.Tx b2 (tab 12 (rds l i)) (tab 20 (wl l i)) (i : Int) (m11_run_Kinds_L1 l n) (tab 12 (stt (l.take i))) b1 (!en (l.take i) 3 p.Tx) = some (k, 0) ∧ (if en (l.take i) 3 p.Tx = true then m17_quirref_Kinds_K2 (i : Int) (m17_quirref_Kinds_L1 l n') b1 b2 b3 else if b2 = true then m17_quirref_Kinds_K2 (i : Int) (m17_quirref_Kinds_L1 l n') b1 (decide (o.Kind ≠ 1)) false else m17_quirref_Kinds_K2 (i : Int) (m17_quirref_Kinds_L1 l n') b1 false false) = some k
        generalize en (l.take i) 3 p.Tx = h
        -- the reads behind this
        have hK9 : o.Kind = 1 → ∀ c s, ∃ k, m11_run_Kinds_K9 (tab 12 (rds l i)) o p.Tx (tab 20 (wl l i)) (i : Int) (m11_run_Kinds_L1 l n) (tab 12 (stt (l.take i))) b1 s c = some (k, 0) ∧ m17_quirref_Kinds_K2 (i : Int) (m17_quirref_Kinds_L1 l n') b1 c s = some k := by
          intro c1 c s
          have hrl := rds_len l o.Tx i
          have hrn : (tab 12 fun t => if t = o.Tx then rds l i o.Tx ++ [p.Tx] else rds l i t) = tab 12 (rds l (i + 1)) := tab_ext fun t _ _ => by
            rw [hrd]
            by_cases q : t = o.Tx
            · rw [if_pos q, if_pos ⟨q.symm, c1, w2, by rw [p2, q]; exact c5⟩, p2, q]
            · rw [if_neg q, if_neg (fun h => q h.1.symm), List.append_nil]
          rw [m11_run_Kinds_K9, tab_idxA hf.t0 hf.t1, bind1_some, app_ok (by simp; omega), bind1_some, bind1_some, tab_upd _ hf.t0 hf.t1, bind1_some, hrn]
          exact hK6 c s (ih (i + 1) (by omega) b1 c s n n' (by omega) (by omega))
        have hK6' : o.Kind = 2 → ∀ c s, ∃ k, m11_run_Kinds_K6 o (tab 20 (wl l i)) (i : Int) (m11_run_Kinds_L1 l n) (tab 12 (stt (l.take i))) b1 (tab 12 (rds l i)) c s = some (k, 0) ∧ m17_quirref_Kinds_K2 (i : Int) (m17_quirref_Kinds_L1 l n') b1 c s = some k := by
          intro c2 c s
          rw [hrd0 (by omega)]
          exact hK6 c s (ih (i + 1) (by omega) b1 c s n n' (by omega) (by omega))
        rcases hk12 with c1 | c1
        · have hd : decide (o.Kind ≠ 1) = false := by simp [c1]
          rw [hd]
          cases b3 <;> cases b2 <;> cases h <;> simp only [m11_run_Kinds_K7, m11_run_Kinds_K8, c1, if_true, ne_eq, c5, not_false_eq_true, Bool.false_eq_true, if_false, Bool.not_true, Bool.not_false] <;> exact hK9 c1 _ _
        · have hd : decide (o.Kind ≠ 1) = true := by simp [c1]
          have h21 : ¬(2 : Int) = 1 := by omega
          rw [hd]
          cases b3 <;> cases b2 <;> cases h <;> simp only [m11_run_Kinds_K7, m11_run_Kinds_K8, c1, h21, if_true, ne_eq, c5, not_false_eq_true, Bool.false_eq_true, if_false, Bool.not_true, Bool.not_false] <;> exact hK6' c1 _ _
theorem kinds_eq (l : List TOp) (hg : Good l) : ∃ k, m11_run_Kinds_K1 l = some (k, 0) ∧ m17_quirref_Kinds l = some k := by
  have hl := hg.len
  obtain ⟨k, h1, h2⟩ := kindsLoop l hg l.length 0 (by omega) true true true big big (lt_big (by omega)) (lt_big (by omega))
  have e1 : tab 12 (rds l 0) = tab 12 fun _ => [] := rfl
  have e2 : tab 20 (wl l 0) = tab 20 fun _ => [] := rfl
  have e3 : tab 12 (stt (l.take 0)) = tab 12 fun _ => (0 : Int) := tab_ext fun t _ _ => by simp [stt, en]
  rw [e1, e2, e3, show ((0 : Nat) : Int) = 0 from rfl] at h1
  rw [show ((0 : Nat) : Int) = 0 from rfl] at h2
  refine ⟨k, ?_, ?_⟩
  · rw [m11_run_Kinds_K1, arrN_ok (by simp), bind1_some, bind1_some, tab_repl, tab_repl, tab_repl, h1]
  · rw [m17_quirref_Kinds, h2]

/-! ### Are two lists one -/
theorem intsLoop (a : List Int) (hl : a.length ≤ 1000000) : ∀ (r i : Nat), i + r = a.length → ∀ n, r < n → m14_slices_Equal_int_L1 a a n (i : Int) = some true := by
  intro r
  induction r with
  | zero =>
    intro i hi n hn
    obtain ⟨n, rfl⟩ := dec n hn
    rw [m14_slices_Equal_int_L1, m14_slices_Equal_int_L1B, if_neg (by omega), m14_slices_Equal_int_K2]
  | succ r ih =>
    intro i hi n hn
    obtain ⟨n, rfl⟩ := dec n (by omega)
    have h1 : i < a.length := by omega
    rw [m14_slices_Equal_int_L1, m14_slices_Equal_int_L1B, if_pos (by omega), idx_ok h1, bind1_some, bind1_some, isucc i (by omega), bind1_some, ih (i + 1) (by omega) n (by omega), if_neg (by simp)]
theorem ints_eq (a : List Int) (hl : a.length ≤ 1000000) : m14_slices_Equal_int a a = some true := by
  rw [m14_slices_Equal_int, if_neg (by simp), m14_slices_Equal_int_K1]
  exact intsLoop a hl a.length 0 (by omega) big (lt_big (by omega))
theorem edgLoop (a : List TEdge) (hl : a.length ≤ 1000000) : ∀ (r i : Nat), i + r = a.length → ∀ n, r < n → m15_api_Edge_L1 a a n (i : Int) = some true := by
  intro r
  induction r with
  | zero =>
    intro i hi n hn
    obtain ⟨n, rfl⟩ := dec n hn
    rw [m15_api_Edge_L1, m15_api_Edge_L1B, if_neg (by omega), m15_api_Edge_K2]
  | succ r ih =>
    intro i hi n hn
    obtain ⟨n, rfl⟩ := dec n (by omega)
    have h1 : i < a.length := by omega
    rw [m15_api_Edge_L1, m15_api_Edge_L1B, if_pos (by omega), idx_ok h1, bind1_some, bind1_some, isucc i (by omega), bind1_some, ih (i + 1) (by omega) n (by omega), if_neg (by simp)]
theorem edg_eq (a : List TEdge) (hl : a.length ≤ 1000000) : m15_api_Edge a a = some true := by
  rw [m15_api_Edge, if_neg (by simp), m15_api_Edge_K1]
  exact edgLoop a hl a.length 0 (by omega) big (lt_big (by omega))
theorem run_true (l : List TOp) : m3_quirlaw_RunSays l = some true := by
  obtain ⟨e, h1, h2, h3⟩ := run_eq l
  rw [m3_quirlaw_RunSays, h1, bind1_some]
  by_cases he : e = 0
  · have hg := h3 he
    obtain ⟨z, ok, s1, s2, s3, s4⟩ := serial_eq l hg
    obtain ⟨k, k1, k2⟩ := kinds_eq l hg
    have hE : m9_run_Edges l = some (eds l, 0) := by rw [m9_run_Edges, h2, bind1_some, if_neg (by simp [he]), edges_own' l hg]
    have hS : m10_run_Serial l = some (z, if ok = true then 0 else 11) := by rw [m10_run_Serial, hE, bind2_some, if_neg (by simp), s1]
    have hK : m11_run_Kinds l = some (k, 0) := by rw [m11_run_Kinds, h2, bind1_some, if_neg (by simp [he]), k1]
    have hq := edg_eq (eds l) (by have := eds_len l; omega)
    rw [hE, bind2_some, hS, bind2_some, hK, bind2_some, h2, bind1_some, if_neg (by simp), m3_quirlaw_RunSays_K1, if_neg (by simp [he]), m3_quirlaw_RunSays_K2, s2, bind2_some]
    cases ok with
    | true =>
      rw [if_pos rfl, if_pos rfl, m3_quirlaw_RunSays_K3, if_pos rfl, ints_eq z (by omega), bind1_some, if_pos rfl, if_pos rfl, m3_quirlaw_RunSays_K7, if_pos rfl, m3_quirlaw_RunSays_K6, if_pos rfl, edges_ref l hg, bind1_some, hq, bind1_some, if_pos rfl, if_pos rfl, k2, bind1_some, if_pos rfl]
      rfl
    | false =>
      obtain rfl := s4 rfl
      rw [if_neg ff, if_neg ff, m3_quirlaw_RunSays_K3, if_neg ff, if_pos (by simp), if_pos rfl, m3_quirlaw_RunSays_K5, if_pos rfl, m3_quirlaw_RunSays_K4, if_pos rfl, edges_ref l hg, bind1_some, hq, bind1_some, if_pos rfl, if_pos rfl, k2, bind1_some, if_pos rfl]
      rfl
  · have hE : m9_run_Edges l = some ([], e) := by rw [m9_run_Edges, h2, bind1_some, if_pos he]
    have hS : m10_run_Serial l = some ([], e) := by rw [m10_run_Serial, hE, bind2_some, if_pos he]
    have hK : m11_run_Kinds l = some (⟨false, false, false⟩, e) := by rw [m11_run_Kinds, h2, bind1_some, if_pos he]
    rw [hE, bind2_some, hS, bind2_some, hK, bind2_some, h2, bind1_some, if_neg (by simp), m3_quirlaw_RunSays_K1, if_pos he, if_pos (by simp), if_pos rfl, m3_quirlaw_RunSays_K8, if_pos rfl, if_pos (by simp), if_pos rfl, m3_quirlaw_RunSays_K9, if_pos rfl, if_pos rfl]
    simp
end Go.Proofs.Ytkhlapdkomnldaa
