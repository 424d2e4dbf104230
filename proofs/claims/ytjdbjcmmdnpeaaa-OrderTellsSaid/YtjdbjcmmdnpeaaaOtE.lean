/-
  The loop of order.Of: what it knows behind each operation.
  Conditions: none.
-/
import Derived.Test.YtjdbjcmmdnpeaaaOtD
namespace Go.Proofs.Ytjdbjcmmdnpeaaa
open Go.S
set_option linter.unusedVariables false
set_option linter.unusedSimpArgs false
section
variable {a0 : List TOp} {a1 : List TDid} {i : Nat} {t : List TTale} {v w : List (List Int)} {ks : List Int} {tl : List (Int × List TGot)}
theorem com_eq (hi : i < a0.length) (hj : i < a1.length) : com a0 a1 i = if a0[i].Kind = 3 ∧ a1[i].OK = true then some a0[i].Tx else none := by
  rw [com, List.getElem?_eq_getElem hi, List.getElem?_eq_getElem hj, com1]
theorem rds_eq (hi : i < a0.length) (hj : i < a1.length) (tx : Int) : rds a0 a1 tx (i + 1) = rds a0 a1 tx i ++ if a0[i].Tx = tx ∧ a0[i].Kind = 1 ∧ a1[i].From ≠ tx then [⟨a0[i].Item, a1[i].From⟩] else [] := by
  rw [rds, List.getElem?_eq_getElem hi, List.getElem?_eq_getElem hj, rd1]
theorem mem_more (hi : i < a0.length) (x : TOp) : x ∈ a0.take (i + 1) ↔ x ∈ a0.take i ∨ x = a0[i] := by
  rw [take_snoc hi, List.mem_append, List.mem_singleton]
theorem modify_set (v : List (List Int)) (k : Nat) (tx : Int) (h : k < v.length) : v.modify k (· ++ [tx]) = v.set k (v[k] ++ [tx]) := by
  apply List.ext_getElem?
  intro q
  rw [List.getElem?_modify, List.getElem?_set]
  by_cases c : k = q
  · subst c
    rw [if_pos rfl, if_pos h, List.getElem?_eq_getElem h]
    simp
  · rw [if_neg c]
    cases v[q]? with
    | none => rfl
    | some x => simp [c]
theorem idxI {α : Type} {l : List α} {k : Int} (h0 : 0 ≤ k) (h1 : k < l.length) : idx l k = some (l[k.toNat]'(by omega)) := by
  have h := idx_ok (l := l) (i := k.toNat) (by omega)
  rwa [show ((k.toNat : Nat) : Int) = k by omega] at h
theorem updI {α : Type} {l : List α} {k : Int} (x : α) (h0 : 0 ≤ k) (h1 : k < l.length) : upd l k x = some (l.set k.toNat x) := if_pos ⟨h0, h1⟩
theorem ofVer (x : TOp) (ks : List Int) (tl : List (Int × List TGot)) (t : List TTale) (gi : Int) (go1 : Int → List TTale → List (List Int) → List (List Int) → List Int → List (Int × List TGot) → Option (TStory × Int)) (w : List (List Int)) (l : List Int) (hl : l.length ≤ 1000) (hk : ∀ k ∈ l, 0 ≤ k ∧ k < 20) :
    ∀ (r j : Nat), j + r = l.length → ∀ n, r < n → ∀ v : List (List Int), v.length = 20 → (∀ y ∈ v, y.length + r ≤ 1000000) → m4_order_Of_L2 l x ks tl t gi go1 w n (j : Int) v = m4_order_Of_K9 ks x tl t gi go1 w (updV v (l.drop j) x.Tx) := by
  intro r
  induction r with
  | zero =>
    intro j hj n hn v hv hy
    obtain ⟨n, rfl⟩ := dec n hn
    rw [m4_order_Of_L2, m4_order_Of_L2B, if_neg (by omega), List.drop_eq_nil_of_le (by omega)]
    rfl
  | succ r ih =>
    intro j hj n hn v hv hy
    obtain ⟨n, rfl⟩ := dec n (by omega)
    have hjl : j < l.length := by omega
    obtain ⟨h0, h1⟩ := hk l[j] (List.getElem_mem hjl)
    have hkv : (l[j]).toNat < v.length := by omega
    have hyl := hy _ (List.getElem_mem hkv)
    rw [m4_order_Of_L2, m4_order_Of_L2B, if_pos (by omega), idx_ok hjl, bind1_some, idxI h0 (by omega), bind1_some, app_ok (by simp; omega), bind1_some, bind1_some, updI _ h0 (by omega), bind1_some, isucc j (by omega), bind1_some]
    rw [ih (j + 1) (by omega) n (by omega) _ (by simp [hv]) (fun y hy' => ?_), drop_cons hjl, updV, updV, List.foldl_cons, modify_set _ _ _ hkv]
    rcases List.mem_or_eq_of_mem_set hy' with h | h
    · have := hy y h; omega
    · subst h; simp; omega
theorem K3_eq (hn : i < 1000) (go1 : Int → List TTale → List (List Int) → List (List Int) → List Int → List (Int × List TGot) → Option (TStory × Int)) (t : List TTale) (v w : List (List Int)) (ks : List Int) (tl : List (Int × List TGot)) :
    m4_order_Of_K3 (i : Int) go1 t v w ks tl = go1 ((i + 1 : Nat) : Int) t v w ks tl := by
  rw [m4_order_Of_K3, isucc i (by omega), bind1_some]
theorem ofStep (hi : i < a0.length) (hd : a1.length = a0.length) (hn : a0.length ≤ 200) (hok : okOp a0[i]) (hpre : ∀ o ∈ a0.take i, okOp o) (hI : Inv a0 a1 i t v w ks tl) (hkey : a0[i].Tx ∈ ks)
    (go1 : Int → List TTale → List (List Int) → List (List Int) → List Int → List (Int × List TGot) → Option (TStory × Int)) :
    ∃ t' v' w' tl', m4_order_Of_K5 a0[i] a1 (i : Int) go1 t v w ks tl = go1 ((i + 1 : Nat) : Int) t' v' w' ks tl' ∧ Inv a0 a1 (i + 1) t' v' w' ks tl' := by
  have hj : i < a1.length := by omega
  have hce := com_eq (a0 := a0) (a1 := a1) hi hj
  have hre := rds_eq (a0 := a0) (a1 := a1) hi hj
  obtain ⟨hx0, hx1, hx2, hx3⟩ := hok
  -- the lists of what was written stay
  have hwm : a0[i].Kind ≠ 2 → ∀ q (h : q < w.length), ∀ k : Int, k ∈ w[q] ↔ (⟨(q : Int), 2, k⟩ : TOp) ∈ a0.take (i + 1) := by
    intro hk q h k
    rw [mem_more hi, hI.wm q h k]
    refine ⟨.inl, fun c => c.elim id fun e => ?_⟩
    exact absurd (congrArg TOp.Kind e).symm hk
  have hwl : ∀ q (h : q < w.length), w[q].length ≤ i + 1 := fun q h => Nat.le_succ_of_le (hI.wl q h)
  have stay : a0[i].Kind ≠ 2 → com a0 a1 i = none → (∀ q, q ∈ ks → rds a0 a1 q (i + 1) = rds a0 a1 q i) → Inv a0 a1 (i + 1) t v w ks tl := fun hk2 hc hr =>
    hI.step hi hkey (by rw [tal_same hc, hI.ht]) (by rw [vers_same hc, hI.hv]) hI.hw hI.wn hwl (hwm hk2) rfl (fun q hq => by rw [hr q hq]; exact hI.rd q hq)
  have hrn : a0[i].Kind ≠ 1 → ∀ q, rds a0 a1 q (i + 1) = rds a0 a1 q i := fun hk q => by rw [hre, if_neg fun c => hk c.2.1, List.append_nil]
  have hcn : a0[i].Kind ≠ 3 → com a0 a1 i = none := fun hk => by rw [hce, if_neg fun c => hk c.1]
  have hgt := hI.rd _ hkey
  have hrl := rds_len (a0 := a0) (a1 := a1) a0[i].Tx i
  have htxw : a0[i].Tx.toNat < w.length := by rw [hI.hw]; omega
  have htxc : ((a0[i].Tx.toNat : Nat) : Int) = a0[i].Tx := by omega
  have hwA : idxA 12 w a0[i].Tx = some (w[a0[i].Tx.toNat]) := by
    have := idxA_ok htxw hI.hw
    rwa [htxc] at this
  rw [m4_order_Of_K5]
  by_cases k1 : a0[i].Kind = 1
  · rw [if_pos k1, idx_ok hj, bind1_some]
    by_cases c : a1[i].From ≠ a0[i].Tx
    · rw [if_pos c, m4_order_Of_K11, if_pos rfl, m4_order_Of_K6, if_pos rfl, tsKey, if_pos hkey, bind1_some, bind1_some, idx_ok hj, bind1_some, hgt, bind1_some, app_ok (by simp; omega), bind1_some, K3_eq (by omega)]
      refine ⟨_, _, _, _, rfl, hI.step hi hkey (by rw [tal_same (hcn (by omega)), hI.ht]) (by rw [vers_same (hcn (by omega)), hI.hv]) hI.hw hI.wn hwl (hwm (by omega)) (put_map _ _ _) (fun q hq => ?_)⟩
      by_cases e : q = a0[i].Tx
      · subst e
        rw [tsGet_put hgt, hre, if_pos ⟨rfl, k1, c⟩]
      · rw [tsGet_ne e, hI.rd q hq, hre, if_neg fun c => e c.1.symm, List.append_nil]
    · rw [if_neg c, m4_order_Of_K11, if_neg ff, m4_order_Of_K6, if_neg ff, if_neg (by omega), m4_order_Of_K10, if_neg ff, m4_order_Of_K7, if_neg ff, if_neg (by omega), m4_order_Of_K8, if_neg ff, K3_eq (by omega)]
      refine ⟨_, _, _, _, rfl, stay (by omega) (hcn (by omega)) fun q hq => ?_⟩
      rw [hre, if_neg, List.append_nil]
      rintro ⟨e1, _, e3⟩
      exact c (e1 ▸ e3)
  · rw [if_neg k1, m4_order_Of_K11, if_neg ff, m4_order_Of_K6, if_neg ff]
    by_cases k2 : a0[i].Kind = 2
    · have hxe : a0[i] = ⟨a0[i].Tx, 2, a0[i].Item⟩ := by
        cases hx : a0[i]
        rw [hx] at k2
        simp only at k2
        rw [k2]
      have hwl0 := hI.wl _ htxw
      rw [if_pos k2, hwA, bind1_some, contains_eq _ _ (by omega), bind1_some]
      by_cases c : a0[i].Item ∈ w[a0[i].Tx.toNat]
      · rw [if_pos (by simpa using c), m4_order_Of_K10, if_neg ff, m4_order_Of_K7, if_neg ff, if_neg (by omega), m4_order_Of_K8, if_neg ff, K3_eq (by omega)]
        refine ⟨_, _, _, _, rfl, hI.step hi hkey (by rw [tal_same (hcn (by omega)), hI.ht]) (by rw [vers_same (hcn (by omega)), hI.hv]) hI.hw hI.wn hwl (fun q h k => ?_) rfl (fun q hq => by rw [hrn k1]; exact hI.rd q hq)⟩
        rw [mem_more hi, hI.wm q h k]
        refine ⟨.inl, fun e => e.elim id fun e => ?_⟩
        have e1 : (q : Int) = a0[i].Tx := congrArg TOp.Tx e
        have e2 : k = a0[i].Item := congrArg TOp.Item e
        have h3 := (hI.wm _ htxw a0[i].Item).1 c
        rw [htxc] at h3
        rw [e1, e2]
        exact h3
      · rw [if_neg (by simpa using c), m4_order_Of_K10, if_pos rfl, m4_order_Of_K7, if_pos rfl, hwA, bind1_some, app_ok (by simp; omega), bind1_some, bind1_some, updI _ hx0 (by rw [hI.hw]; omega), bind1_some, K3_eq (by omega)]
        refine ⟨_, _, _, _, rfl, hI.step hi hkey (by rw [tal_same (hcn (by omega)), hI.ht]) (by rw [vers_same (hcn (by omega)), hI.hv]) (by simp [hI.hw]) (fun q h => ?_) (fun q h => ?_) (fun q h k => ?_) rfl (fun q hq => by rw [hrn k1]; exact hI.rd q hq)⟩
        · rw [List.getElem_set]
          split
          · rw [List.nodup_append]
            exact ⟨hI.wn _ htxw, by simp, fun a ha b hb hab => by
              simp only [List.mem_singleton] at hb
              subst hb; subst hab
              exact c ha⟩
          · exact hI.wn q (by simpa using h)
        · rw [List.getElem_set]
          split
          · simp; omega
          · exact Nat.le_succ_of_le (hI.wl q (by simpa using h))
        · rw [mem_more hi, List.getElem_set]
          by_cases e : a0[i].Tx.toNat = q
          · subst e
            rw [if_pos rfl, List.mem_append, List.mem_singleton, hI.wm _ htxw k, htxc]
            refine or_congr Iff.rfl ⟨fun e => ?_, fun e => congrArg TOp.Item e⟩
            rw [e]; exact hxe.symm
          · rw [if_neg e, hI.wm q (by simpa using h) k]
            refine ⟨.inl, fun e2 => e2.elim id fun e2 => ?_⟩
            have : (q : Int) = a0[i].Tx := congrArg TOp.Tx e2
            omega
    · rw [if_neg k2, m4_order_Of_K10, if_neg ff, m4_order_Of_K7, if_neg ff]
      by_cases k3 : a0[i].Kind = 3
      · rw [if_pos k3, idx_ok hj, bind1_some]
        by_cases c : a1[i].OK = true
        · have hc : com a0 a1 i = some a0[i].Tx := by rw [hce, if_pos ⟨k3, c⟩]
          have hmem := hI.wm _ htxw
          rw [htxc] at hmem
          have hwl0 := hI.wl _ htxw
          have h20 : ∀ k ∈ w[a0[i].Tx.toNat], 0 ≤ k ∧ k < 20 := fun k hk => by
            have := hpre _ ((hmem k).1 hk)
            exact ⟨this.2.2.1, this.2.2.2⟩
          have hv20 : v.length = 20 := by rw [hI.hv]; exact vers_len i
          have htl := tal_len (a0 := a0) (a1 := a1) i
          have h5 := ofVer a0[i] ks tl t (i : Int) go1 w _ (by omega) h20 w[a0[i].Tx.toNat].length 0 (by omega) big (lt_big (by omega)) v hv20 (fun y hy => by
            rw [hI.hv] at hy
            have := vers_mem hy
            omega)
          rw [show ((0 : Nat) : Int) = 0 from rfl, List.drop_zero] at h5
          rw [if_pos c, m4_order_Of_K8, if_pos rfl, hwA, bind1_some, h5, m4_order_Of_K9, tsKey, if_pos hkey, bind1_some, hgt, bind1_some, app_ok (by rw [hI.ht]; simp; omega), bind1_some, K3_eq (by omega)]
          refine ⟨_, _, _, _, rfl, hI.step hi hkey (by rw [tal_more hc, hI.ht]) (by rw [hI.hv]; exact vers_upd hc (hI.wn _ htxw) (fun k hk => (h20 k hk).1) hmem) hI.hw hI.wn hwl (hwm k2) rfl (fun q hq => by rw [hrn k1]; exact hI.rd q hq)⟩
        · rw [if_neg c, m4_order_Of_K8, if_neg ff, K3_eq (by omega)]
          exact ⟨_, _, _, _, rfl, stay k2 (by rw [hce, if_neg fun e => c e.2]) fun q hq => hrn k1 q⟩
      · rw [if_neg k3, m4_order_Of_K8, if_neg ff, K3_eq (by omega)]
        exact ⟨_, _, _, _, rfl, stay k2 (hcn k3) fun q hq => hrn k1 q⟩
theorem Inv.key (hI : Inv a0 a1 i t v w ks tl) (tx : Int) (h : tx ∉ ks) : Inv a0 a1 i t v w (ks ++ [tx]) (tl ++ [(tx, [])]) := by
  have h2 : tx ∉ tl.map (·.1) := fun c => h ((hI.kk tx).2 c)
  refine ⟨hI.ht, hI.hv, hI.hw, hI.wn, hI.wl, hI.wm, fun q => ?_, fun q hq => ?_, fun q hq => hI.no q fun c => hq (List.mem_append_left _ c)⟩
  · rw [List.map_append, List.mem_append, List.mem_append, hI.kk q]; rfl
  · by_cases e : q = tx
    · subst e
      rw [tsGet_new h2, rds_none (hI.no q h)]
    · rcases List.mem_append.1 hq with hq | hq
      · exact tsGet_app (hI.rd q hq) _
      · exact absurd (by simpa using hq) e
/-- The end of the loop. -/
noncomputable def ofEnd (t : List TTale) (v : List (List Int)) : Option (TStory × Int) := m4_order_Of_K2 t v [] []
theorem ofLoop (hd : a1.length = a0.length) (hn : a0.length ≤ 200) : ∀ (r i : Nat), i + r = a0.length → (∀ o ∈ a0.take i, okOp o) → ∀ n, r < n → ∀ t v w ks tl, Inv a0 a1 i t v w ks tl →
    m4_order_Of_L1 a0 a1 n (i : Int) t v w ks tl = if ∀ o ∈ a0.drop i, okOp o then ofEnd (tal a0 a1 a0.length) (vers a0 a1 a0.length) else some (⟨[], []⟩, 1) := by
  intro r
  induction r with
  | zero =>
    intro i hi hp n hn' t v w ks tl hI
    obtain ⟨n, rfl⟩ := dec n hn'
    obtain rfl : i = a0.length := by omega
    rw [m4_order_Of_L1, m4_order_Of_L1B, if_neg (by omega), if_pos (by simp), hI.ht, hI.hv]
    rfl
  | succ r ih =>
    intro i hi hp n hn' t v w ks tl hI
    obtain ⟨n, rfl⟩ := dec n (by omega)
    have hil : i < a0.length := by omega
    rw [m4_order_Of_L1, m4_order_Of_L1B, if_pos (by omega), idx_ok hil, bind1_some]
    have hbad : ¬ okOp a0[i] → ¬ ∀ o ∈ a0.drop i, okOp o := fun hb h => hb (h _ (by rw [drop_cons hil]; exact List.mem_cons_self))
    by_cases c1 : a0[i].Tx < 0
    · rw [if_pos c1, m4_order_Of_K12, if_pos rfl, if_neg (hbad fun h => by unfold okOp at h; omega)]
    rw [if_neg c1]
    by_cases c2 : 12 ≤ a0[i].Tx
    · rw [if_pos c2, m4_order_Of_K12, if_pos rfl, if_neg (hbad fun h => by unfold okOp at h; omega)]
    rw [if_neg c2, m4_order_Of_K12, if_neg ff]
    by_cases c3 : a0[i].Item < 0
    · rw [if_pos c3, if_neg (hbad fun h => by unfold okOp at h; omega)]
    rw [if_neg c3]
    by_cases c4 : 20 ≤ a0[i].Item
    · rw [if_pos c4, if_neg (hbad fun h => by unfold okOp at h; omega)]
    rw [if_neg c4, m4_order_Of_K4, mget_tk]
    have hok : okOp a0[i] := ⟨by omega, by omega, by omega, by omega⟩
    have hnext : (∀ o ∈ a0.drop i, okOp o) ↔ ∀ o ∈ a0.drop (i + 1), okOp o := by
      rw [drop_cons hil, List.forall_mem_cons]
      exact ⟨fun h => h.2, fun h => ⟨hok, h⟩⟩
    have hp' : ∀ o ∈ a0.take (i + 1), okOp o := fun o ho => by
      rcases (mem_more hil o).1 ho with h | h
      · exact hp o h
      · rw [h]; exact hok
    simp only [hnext]
    by_cases c : a0[i].Tx ∈ ks
    · rw [if_pos c, if_neg (by simp)]
      obtain ⟨t', v', w', tl', h1, h2⟩ := ofStep hil hd hn hok hp hI c (m4_order_Of_L1 a0 a1 n)
      rw [h1]
      exact ih (i + 1) (by omega) hp' n (by omega) _ _ _ _ _ h2
    · rw [if_neg c, if_pos (show (none : Option Int).isNone = true from rfl), tsAdd, if_neg (fun h => c (h.elim id fun h => (hI.kk _).2 h)), bind2_some]
      obtain ⟨t', v', w', tl', h1, h2⟩ := ofStep hil hd hn hok hp (hI.key _ c) (by simp) (m4_order_Of_L1 a0 a1 n)
      rw [h1]
      exact ih (i + 1) (by omega) hp' n (by omega) _ _ _ _ _ h2
theorem inv0 : Inv a0 a1 0 [] (List.replicate 20 []) (List.replicate 12 []) [] [] := by
  refine ⟨rfl, ?_, by simp, fun q h => by rw [List.getElem_replicate]; exact List.nodup_nil, fun q h => by rw [List.getElem_replicate]; exact Nat.le_refl _, fun q h k => by rw [List.getElem_replicate]; simp, fun q => by simp, fun q hq => by simp at hq, fun q _ o ho => by simp at ho⟩
  apply List.ext_getElem?
  intro q
  by_cases hq : q < 20
  · rw [vers_get 0 hq, ver, List.getElem?_replicate, if_pos hq]
  · rw [List.getElem?_eq_none (by simp; omega), List.getElem?_eq_none (by rw [vers_len]; omega)]
theorem of_eq (hd : a1.length = a0.length) (hn : a0.length ≤ 200) : m4_order_Of a0 a1 = if ∀ o ∈ a0, okOp o then ofEnd (tal a0 a1 a0.length) (vers a0 a1 a0.length) else some (⟨[], []⟩, 1) := by
  rw [m4_order_Of, if_neg (by omega), if_neg (by omega), m4_order_Of_K1, (show mk 20 ([] : List Int) = some (List.replicate 20 []) from if_pos (by decide)), bind1_some]
  have := ofLoop hd hn a0.length 0 (by omega) (by simp) big (lt_big (by omega)) _ _ _ _ _ inv0
  rw [List.drop_zero] at this
  exact this
end
end Go.Proofs.Ytjdbjcmmdnpeaaa
