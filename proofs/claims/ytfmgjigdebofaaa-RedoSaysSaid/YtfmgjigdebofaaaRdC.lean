/-
  Package redo: which logs are right.
  Conditions: none.
-/
import Derived.Test.YtfmgjigdebofaaaRdM
import Derived.Test.YtfmgjigdebofaaaJ
namespace Go.Proofs.Ytfmgjigdebofaaa
open Go.S
set_option linter.unusedVariables false
set_option linter.unusedSimpArgs false
def recN (l : List TRec) (i : Nat) : TRec := match l[i]? with
  | some o => o
  | none => ⟨0, 0, 0, 0, 0⟩
theorem recN_at {l : List TRec} {i : Nat} (h : i < l.length) : recN l i = l[i] := by
  unfold recN
  rw [List.getElem?_eq_getElem h]
/-! ### Is a transaction over -/
def endsB (t : Int) (r : TRec) : Bool := decide (r.Tx = t) && (decide (r.Kind = 2) || decide (r.Kind = 3))
def ended (p : List TRec) (t : Int) : Bool := p.any (endsB t)
theorem ended_snoc (p : List TRec) (o : TRec) (t : Int) : ended (p ++ [o]) t = (ended p t || endsB t o) := by simp [ended]
theorem endLoop (p : List TRec) (t : Int) (hp : p.length ≤ 1000) : ∀ (r i : Nat), i + r = p.length → ∀ n, r < n → m116_quirref_ended_L1 p t n (i : Int) = some (ended (p.drop i) t) := by
  intro r
  induction r with
  | zero =>
    intro i hi n hn
    obtain ⟨n, rfl⟩ := dec n hn
    rw [m116_quirref_ended_L1, m116_quirref_ended_L1B, if_neg (by omega), List.drop_eq_nil_of_le (by omega)]
    rfl
  | succ r ih =>
    intro i hi n hn
    obtain ⟨n, rfl⟩ := dec n (by omega)
    have h1 : i < p.length := by omega
    have e : ended (p.drop i) t = (endsB t p[i] || ended (p.drop (i + 1)) t) := by rw [drop_cons h1]; rfl
    have k4 : ∀ b : Bool, m116_quirref_ended_K5 (i : Int) (m116_quirref_ended_L1 p t n) b = some (b || ended (p.drop (i + 1)) t) := by
      intro b
      rw [m116_quirref_ended_K5, m116_quirref_ended_K4, isucc i (by omega), bind1_some, ih (i + 1) (by omega) n (by omega)]
      cases b
      · rfl
      · rw [if_pos rfl, m116_quirref_ended_K2, m116_quirref_ended_K1, decide_eq_true (show (0 : Int) ≤ (i : Int) by omega)]; rfl
    rw [m116_quirref_ended_L1, m116_quirref_ended_L1B, if_pos (by omega), idx_ok h1, bind1_some, k4, k4, k4, e]
    unfold endsB
    by_cases c1 : p[i].Tx = t
    · rw [if_pos c1, decide_eq_true c1]
      by_cases c2 : p[i].Kind = 2
      · rw [if_pos c2, decide_eq_true c2]; rfl
      · rw [if_neg c2, decide_eq_false c2]; rfl
    · rw [if_neg c1, decide_eq_false c1]; rfl
theorem ended_eq (p : List TRec) (t : Int) (hp : p.length ≤ 1000) : m116_quirref_ended p t = some (ended p t) := by
  rw [m116_quirref_ended]
  exact endLoop p t hp p.length 0 (by omega) big (lt_big (by omega))
/-! ### The last update of an item -/
def luN (l : List TRec) (it : Int) : Nat → Int
  | 0 => -1
  | q + 1 => if (recN l q).Kind = 1 ∧ (recN l q).Item = it then (q : Int) else luN l it q
theorem luN_range (l : List TRec) (it : Int) : ∀ q, -1 ≤ luN l it q ∧ luN l it q < q
  | 0 => by simp [luN]
  | q + 1 => by
    have := luN_range l it q
    simp only [luN]
    split <;> omega
theorem luLoop (l : List TRec) (i : Nat) (it : Int) (hl : l.length ≤ 1000) (hi : i ≤ l.length) : ∀ (q : Nat), q ≤ i → ∀ n, q < n → m115_quirref_lastUpdate_L1 (l.take i) it n ((q : Int) - 1) = some (luN l it q) := by
  intro q
  induction q with
  | zero =>
    intro hq n hn
    obtain ⟨n, rfl⟩ := dec n hn
    rw [m115_quirref_lastUpdate_L1, m115_quirref_lastUpdate_L1B, if_neg (by omega)]
    rfl
  | succ q ih =>
    intro hq n hn
    obtain ⟨n, rfl⟩ := dec n (by omega)
    have h1 : q < l.length := by omega
    have h2 : q < (l.take i).length := by rw [List.length_take]; omega
    have hi64 : i64 ((q : Int) - 1) = some ((q : Int) - 1) := i64_ok (by omega) (by omega)
    rw [m115_quirref_lastUpdate_L1, m115_quirref_lastUpdate_L1B, show ((q + 1 : Nat) : Int) - 1 = (q : Int) by omega, if_pos (by omega), m115_quirref_lastUpdate_K2, idx_ok h2, bind1_some, bind1_some, hi64, bind1_some, ih (by omega) n (by omega), luN, recN_at h1, List.getElem_take]
    by_cases c1 : l[q].Kind = 1
    · by_cases c2 : l[q].Item = it
      · simp [c1, c2]
      · simp [c1, c2]
    · simp [c1]
theorem lu_eq (l : List TRec) (i : Nat) (it : Int) (hl : l.length ≤ 1000) (hi : i ≤ l.length) : m115_quirref_lastUpdate (l.take i) it = some (luN l it i) := by
  rw [m115_quirref_lastUpdate, List.length_take, Nat.min_eq_left hi, i64_ok (by omega) (by omega), bind1_some]
  exact luLoop l i it hl hi i (Nat.le_refl _) big (lt_big (by omega))
theorem luN_succ {l : List TRec} {i : Nat} (h : i < l.length) (it : Int) : luN l it (i + 1) = if l[i].Kind = 1 ∧ l[i].Item = it then (i : Int) else luN l it i := by rw [luN, recN_at h]
/-! ### What the document says of a record -/
def updOK (l : List TRec) (i : Nat) : Bool :=
  if luN l (recN l i).Item i < 0 then decide ((recN l i).Old = 0)
  else decide ((recN l i).Old = (recN l (luN l (recN l i).Item i).toNat).New) && (decide ((recN l (luN l (recN l i).Item i).toNat).Tx = (recN l i).Tx) || ended (l.take i) (recN l (luN l (recN l i).Item i).toNat).Tx)
def rc (l : List TRec) (i : Nat) : Int :=
  if (recN l i).Tx < 0 ∨ 11 < (recN l i).Tx ∨ (recN l i).Item < 0 ∨ 19 < (recN l i).Item then 1
  else if ended (l.take i) (recN l i).Tx = true then 4
  else if (recN l i).Kind = 1 then (if updOK l i = true then 0 else 4)
  else if (recN l i).Kind = 2 ∨ (recN l i).Kind = 3 then (if (recN l i).Item = 0 ∧ (recN l i).Old = 0 ∧ (recN l i).New = 0 then 0 else 4)
  else 4
theorem rec_eq (l : List TRec) (hl : l.length ≤ 1000) (i : Nat) (h : i < l.length) : m112_quirref_recErr l (i : Int) = some (rc l i) := by
  have hlu := lu_eq l i l[i].Item hl (by omega)
  have hen : ∀ t, m116_quirref_ended (l.take i) t = some (ended (l.take i) t) := fun t => ended_eq _ t (by rw [List.length_take]; omega)
  have hr := luN_range l l[i].Item i
  rw [m112_quirref_recErr, idx_ok h, bind1_some]
  simp only [m112_quirref_recErr_K10, m112_quirref_recErr_K1, m112_quirref_recErr_K2, cut_take l i (by omega), bind1_some, hen]
  unfold rc updOK
  rw [recN_at h]
  by_cases c1 : l[i].Tx < 0
  · rw [if_pos c1, if_pos trivial, if_pos (.inl c1)]
  rw [if_neg c1]
  by_cases c2 : 11 < l[i].Tx
  · rw [if_pos c2, if_pos trivial, if_pos (.inr (.inl c2))]
  rw [if_neg c2, if_neg ff]
  by_cases c3 : l[i].Item < 0
  · rw [if_pos c3, if_pos (.inr (.inr (.inl c3)))]
  rw [if_neg c3]
  by_cases c4 : 19 < l[i].Item
  · rw [if_pos c4, if_pos (.inr (.inr (.inr c4)))]
  have hor : ¬ (l[i].Tx < 0 ∨ 11 < l[i].Tx ∨ l[i].Item < 0 ∨ 19 < l[i].Item) := by omega
  rw [if_neg c4, if_neg hor]
  by_cases c5 : ended (l.take i) l[i].Tx = true
  · rw [if_pos c5, if_pos c5]
  rw [if_neg c5, if_neg c5]
  by_cases c6 : l[i].Kind = 1
  · rw [if_pos c6, if_pos c6, m112_quirref_recErr_K4, if_pos rfl, cut_take l i (by omega), bind1_some, hlu, bind1_some]
    simp only [m112_quirref_recErr_K7, m112_quirref_recErr_K8, m112_quirref_recErr_K9, m112_quirref_recErr_K3]
    by_cases c7 : luN l l[i].Item i < 0
    · rw [if_pos c7, if_pos c7]
      by_cases c8 : l[i].Old = 0
      · rw [if_pos c8, if_pos trivial, if_pos (decide_eq_true c8)]
      · rw [if_neg c8, if_neg ff, if_neg (by omega), if_neg ff, if_neg (by simpa using c8)]
    · rw [if_neg c7, if_neg c7, if_neg ff, if_pos (by omega)]
      obtain ⟨k, hk⟩ := Int.eq_ofNat_of_zero_le (show 0 ≤ luN l l[i].Item i by omega)
      have hkl : k < l.length := by omega
      rw [hk, idx_ok hkl, bind1_some, bind1_some, cut_take l i (by omega), bind1_some, bind1_some, hen, bind1_some, Int.toNat_natCast, recN_at hkl]
      by_cases c8 : l[i].Old = l[k].New
      · rw [if_pos c8, if_pos trivial, decide_eq_true c8]
        by_cases c9 : l[k].Tx = l[i].Tx
        · rw [if_pos c9, if_pos trivial, decide_eq_true c9]; rfl
        · rw [if_neg c9, decide_eq_false c9]
          cases ended (l.take i) l[k].Tx <;> simp
      · rw [if_neg c8, if_neg ff, decide_eq_false c8]; rfl
  · rw [if_neg c6, if_neg c6, m112_quirref_recErr_K4, if_neg ff]
    simp only [m112_quirref_recErr_K5, m112_quirref_recErr_K6, m112_quirref_recErr_K3]
    by_cases c7 : l[i].Kind = 2
    · have h23 : l[i].Kind = 2 ∨ l[i].Kind = 3 := .inl c7
      rw [if_pos c7, if_pos trivial, if_pos h23]
      by_cases d1 : l[i].Item = 0 <;> by_cases d2 : l[i].Old = 0 <;> by_cases d3 : l[i].New = 0 <;> simp [d1, d2, d3]
    · rw [if_neg c7]
      by_cases c8 : l[i].Kind = 3
      · have h23 : l[i].Kind = 2 ∨ l[i].Kind = 3 := .inr c8
        rw [if_pos c8, if_pos trivial, if_pos h23]
        by_cases d1 : l[i].Item = 0 <;> by_cases d2 : l[i].Old = 0 <;> by_cases d3 : l[i].New = 0 <;> simp [d1, d2, d3]
      · have h23 : ¬ (l[i].Kind = 2 ∨ l[i].Kind = 3) := by omega
        rw [if_neg c8, if_neg ff, if_neg h23]
/-! ### What the program keeps -/
def vl (l : List TRec) (i : Nat) (it : Int) : Int := if 0 ≤ luN l it i then (recN l (luN l it i).toNat).New else 0
def ow (l : List TRec) (i : Nat) (it : Int) : Int := if 0 ≤ luN l it i ∧ ended (l.take i) (recN l (luN l it i).toNat).Tx = false then (recN l (luN l it i).toNat).Tx + 1 else 0
structure OInv (l : List TRec) (i : Nat) (g : List (Int × Int)) : Prop where
  nod : (g.map (·.1)).Nodup
  get : ∀ it, mget g it 0 = ow l i it
  len : g.length ≤ i
theorem mset_nodup {g : List (Int × Int)} (h : (g.map (·.1)).Nodup) (k v : Int) : ((mset g k v).map (·.1)).Nodup := by
  unfold mset
  by_cases c : mhas g k = true
  · rw [if_pos c, List.map_map]
    have : ((fun p : Int × Int => p.1) ∘ fun p : Int × Int => if p.1 = k then (k, v) else p) = fun p => p.1 := by
      funext p
      simp only [Function.comp]
      split
      · rename_i e; exact e.symm
      · rfl
    rw [this]; exact h
  · rw [if_neg c, List.map_append, List.nodup_append]
    refine ⟨h, by simp, fun a ha b hb => ?_⟩
    have : b = k := by simpa using hb
    rintro rfl
    rw [this] at ha
    obtain ⟨p, hp, hpk⟩ := List.mem_map.1 ha
    exact c (mhas_iff.2 ⟨p, hp, hpk⟩)
/-- What is left when the entries of one transaction have gone, whichever way the map is gone through. -/
theorem goneLoop (gx1 : Int) (go1 : Int → List Int → List (Int × Int) → List Bool → Option Int) (gl2 : List Int) (l9 : List Bool) (o : TRec) (ho : 0 ≤ o.Tx ∧ o.Tx < 1000) (m0 : Int → Int) (e : Int) (B : Nat)
    (hend : ∀ g : List (Int × Int), g.length ≤ B → (g.map (·.1)).Nodup → (∀ k, mget g k 0 = if m0 k = o.Tx + 1 then 0 else m0 k) → m60_redo_Check_K3 gx1 go1 gl2 g l9 = some e) :
    ∀ (r : Nat) (g left : List (Int × Int)), g.length ≤ B → left.length = r → (g.map (·.1)).Nodup → (left.map (·.1)).Nodup → (∀ p ∈ left, p.2 = m0 p.1 ∧ mget g p.1 0 = p.2) → (∀ k, (∀ p ∈ left, p.1 ≠ k) → mget g k 0 = if m0 k = o.Tx + 1 then 0 else m0 k) → ∀ n, r < n →
    m60_redo_Check_L2 gx1 go1 gl2 l9 o n g left = some e := by
  intro r
  induction r with
  | zero =>
    intro g left hB hl hg hln h3 h4 n hn
    obtain ⟨n, rfl⟩ := dec n hn
    obtain rfl := List.length_eq_zero_iff.1 hl
    rw [m60_redo_Check_L2, m60_redo_Check_L2B]
    show m60_redo_Check_K3 gx1 go1 gl2 g l9 = some e
    exact hend g hB hg (fun k => h4 k (by simp))
  | succ r ih =>
    intro g left hB hl hg hln h3 h4 n hn
    obtain ⟨n, rfl⟩ := dec n (by omega)
    rw [m60_redo_Check_L2, m60_redo_Check_L2B]
    refine nxt_ok (by intro h; rw [h] at hl; simp at hl) fun j p hj => ?_
    have hp := List.mem_of_getElem? hj
    have hpe := erase_perm left j p hj
    have hlen : (left.eraseIdx j).length = r := by
      have := hpe.length_eq
      simp only [List.length_cons] at this
      omega
    have hnd : (p.1 :: (left.eraseIdx j).map (·.1)).Nodup := (List.Perm.nodup_iff (hpe.map (fun q : Int × Int => q.1))).1 hln
    rw [List.nodup_cons] at hnd
    have hne : ∀ q ∈ left.eraseIdx j, q.1 ≠ p.1 := fun q hq he => hnd.1 (List.mem_map.2 ⟨q, hq, he⟩)
    have hmem : ∀ q, q ∈ left ↔ q = p ∨ q ∈ left.eraseIdx j := fun q => by rw [hpe.mem_iff, List.mem_cons]
    have h3p := h3 p hp
    show bind1 (i64 (o.Tx + 1)) _ = some e
    rw [i64_ok (by omega) (by omega), bind1_some]
    by_cases c : p.2 = o.Tx + 1
    · rw [if_pos c, mdel_none hne]
      refine ih (mdel g p.1) (left.eraseIdx j) (Nat.le_trans (List.length_filter_le _ _) hB) hlen (hg.sublist (List.Sublist.map _ (List.filter_sublist ..))) hnd.2 (fun q hq => ?_) (fun k hk => ?_) n (by omega)
      · have := h3 q ((hmem q).2 (.inr hq))
        refine ⟨this.1, ?_⟩
        rw [mget_mdel, if_neg (hne q hq)]
        exact this.2
      · rw [mget_mdel]
        by_cases ck : k = p.1
        · rw [if_pos ck, if_pos (by rw [ck, ← h3p.1]; exact c)]
        · rw [if_neg ck]
          refine h4 k (fun q hq => ?_)
          rcases (hmem q).1 hq with rfl | hq
          · exact fun he => ck he.symm
          · exact hk q hq
    · rw [if_neg c]
      refine ih g (left.eraseIdx j) hB hlen hg hnd.2 (fun q hq => h3 q ((hmem q).2 (.inr hq))) (fun k hk => ?_) n (by omega)
      by_cases ck : k = p.1
      · rw [ck, h3p.2, ← h3p.1, if_neg c]
      · refine h4 k (fun q hq => ?_)
        rcases (hmem q).1 hq with rfl | hq
        · exact fun he => ck he.symm
        · exact hk q hq
/-! ### What a record turns -/
structure Rok (o : TRec) : Prop where
  t0 : 0 ≤ o.Tx
  t1 : o.Tx < 12
  i0 : 0 ≤ o.Item
  i1 : o.Item < 20
  kd : o.Kind = 1 ∨ o.Kind = 2 ∨ o.Kind = 3
theorem ended_succ {l : List TRec} {i : Nat} (h : i < l.length) (t : Int) : ended (l.take (i + 1)) t = (ended (l.take i) t || endsB t l[i]) := by rw [take_snoc h, ended_snoc]
theorem lu_now {l : List TRec} {i : Nat} (h : i < l.length) (hk : l[i].Kind = 1) {it : Int} (c : it = l[i].Item) : luN l it (i + 1) = i := by rw [luN_succ h, if_pos ⟨hk, c.symm⟩]
theorem lu_keep {l : List TRec} {i : Nat} (h : i < l.length) {it : Int} (c : ¬ (l[i].Kind = 1 ∧ l[i].Item = it)) : luN l it (i + 1) = luN l it i := by rw [luN_succ h, if_neg c]
theorem vl_upd {l : List TRec} {i : Nat} (h : i < l.length) (hk : l[i].Kind = 1) (it : Int) : vl l (i + 1) it = if it = l[i].Item then l[i].New else vl l i it := by
  unfold vl
  by_cases c : it = l[i].Item
  · rw [lu_now h hk c, if_pos c, if_pos (by omega), Int.toNat_natCast, recN_at h]
  · rw [lu_keep h (fun e => c e.2.symm), if_neg c]
theorem vl_other {l : List TRec} {i : Nat} (h : i < l.length) (hk : l[i].Kind ≠ 1) (it : Int) : vl l (i + 1) it = vl l i it := by
  unfold vl
  rw [lu_keep h (fun e => hk e.1)]
theorem ends_one {o : TRec} (hk : o.Kind = 1) (t : Int) : endsB t o = false := by simp [endsB, hk]
theorem ow_upd {l : List TRec} {i : Nat} (h : i < l.length) (hk : l[i].Kind = 1) (he : ended (l.take i) l[i].Tx = false) (it : Int) : ow l (i + 1) it = if it = l[i].Item then l[i].Tx + 1 else ow l i it := by
  unfold ow
  by_cases c : it = l[i].Item
  · rw [lu_now h hk c, if_pos c, Int.toNat_natCast, recN_at h, ended_succ h, ends_one hk, he, if_pos ⟨by omega, rfl⟩]
  · rw [lu_keep h (fun e => c e.2.symm), if_neg c, ended_succ h, ends_one hk, Bool.or_false]
theorem ow_end {l : List TRec} {i : Nat} (h : i < l.length) (hk : l[i].Kind = 2 ∨ l[i].Kind = 3) (ht : 0 ≤ l[i].Tx) (it : Int) : ow l (i + 1) it = if ow l i it = l[i].Tx + 1 then 0 else ow l i it := by
  unfold ow
  rw [lu_keep h (by omega), ended_succ h]
  have he : endsB (recN l (luN l it i).toNat).Tx l[i] = decide (l[i].Tx = (recN l (luN l it i).toNat).Tx) := by
    unfold endsB
    rcases hk with hk | hk <;> simp [hk]
  rw [he]
  by_cases c1 : 0 ≤ luN l it i ∧ ended (l.take i) (recN l (luN l it i).toNat).Tx = false
  · rw [if_pos c1, c1.2]
    by_cases c2 : l[i].Tx = (recN l (luN l it i).toNat).Tx
    · rw [if_neg (by simp [c2]), if_pos (by omega)]
    · rw [if_pos ⟨c1.1, by simp [c2]⟩, if_neg (by omega)]
  · rw [if_neg c1, if_neg (show ¬ (0 : Int) = l[i].Tx + 1 by omega), if_neg]
    intro c2
    refine c1 ⟨c2.1, ?_⟩
    have := c2.2
    rw [Bool.or_eq_false_iff] at this
    exact this.1
theorem upd_iff {l : List TRec} {i : Nat} (h : i < l.length) (hpre : ∀ j (hj : j < l.length), j < i → 0 ≤ l[j].Tx) : updOK l i = true ↔ (ow l i l[i].Item = 0 ∨ ow l i l[i].Item = l[i].Tx + 1) ∧ l[i].Old = vl l i l[i].Item := by
  unfold updOK ow vl
  rw [recN_at h]
  have hr := luN_range l l[i].Item i
  by_cases c : luN l l[i].Item i < 0
  · rw [if_pos c, if_neg (by omega), if_neg (by omega)]
    simp
  · obtain ⟨k, hk⟩ := Int.eq_ofNat_of_zero_le (show 0 ≤ luN l l[i].Item i by omega)
    have hkl : k < l.length := by omega
    have hk0 := hpre k hkl (by omega)
    rw [if_neg c, hk, Int.toNat_natCast, recN_at hkl, if_pos (show (0 : Int) ≤ (k : Int) by omega), Bool.and_eq_true, decide_eq_true_iff]
    cases he : ended (l.take i) l[k].Tx with
    | true =>
      rw [if_neg (by simp)]
      simp
    | false =>
      rw [if_pos ⟨by omega, rfl⟩, Bool.or_false, decide_eq_true_iff]
      constructor
      · rintro ⟨h1, h2⟩
        exact ⟨.inr (by omega), h1⟩
      · rintro ⟨h1 | h1, h2⟩
        · omega
        · exact ⟨h2, by omega⟩
theorem ck_round (l : List TRec) (hl : l.length ≤ 400) (i : Nat) (h : i < l.length) (hpre : ∀ j (hj : j < l.length), j < i → 0 ≤ l[j].Tx) (go : Int → List Int → List (Int × Int) → List Bool → Option Int) (g : List (Int × Int)) (hg : OInv l i g) :
    (rc l i ≠ 0 → m60_redo_Check_L1B go l (i : Int) (tab 20 (vl l i)) g (tab 12 (ended (l.take i))) = some (rc l i)) ∧
    (rc l i = 0 → Rok l[i] ∧ ∀ e, (∀ g', OInv l (i + 1) g' → go ((i + 1 : Nat) : Int) (tab 20 (vl l (i + 1))) g' (tab 12 (ended (l.take (i + 1)))) = some e) → m60_redo_Check_L1B go l (i : Int) (tab 20 (vl l i)) g (tab 12 (ended (l.take i))) = some e) := by
  have hrc : rc l i = if l[i].Tx < 0 ∨ 11 < l[i].Tx ∨ l[i].Item < 0 ∨ 19 < l[i].Item then 1
      else if ended (l.take i) l[i].Tx = true then 4
      else if l[i].Kind = 1 then (if updOK l i = true then 0 else 4)
      else if l[i].Kind = 2 ∨ l[i].Kind = 3 then (if l[i].Item = 0 ∧ l[i].Old = 0 ∧ l[i].New = 0 then 0 else 4)
      else 4 := by rw [rc, recN_at h]
  have bad : ∀ c : Int, c ≠ 0 → rc l i = c → m60_redo_Check_L1B go l (i : Int) (tab 20 (vl l i)) g (tab 12 (ended (l.take i))) = some c →
      (rc l i ≠ 0 → m60_redo_Check_L1B go l (i : Int) (tab 20 (vl l i)) g (tab 12 (ended (l.take i))) = some (rc l i)) ∧
      (rc l i = 0 → Rok l[i] ∧ ∀ e, (∀ g', OInv l (i + 1) g' → go ((i + 1 : Nat) : Int) (tab 20 (vl l (i + 1))) g' (tab 12 (ended (l.take (i + 1)))) = some e) → m60_redo_Check_L1B go l (i : Int) (tab 20 (vl l i)) g (tab 12 (ended (l.take i))) = some e) :=
    fun c h1 h2 h3 => ⟨fun _ => by rw [h2]; exact h3, fun h0 => absurd (h2.symm.trans h0) h1⟩
  have start : m60_redo_Check_L1B go l (i : Int) (tab 20 (vl l i)) g (tab 12 (ended (l.take i))) = if l[i].Tx < 0 then m60_redo_Check_K12 l[i] (tab 12 (ended (l.take i))) g (tab 20 (vl l i)) i go true else if 12 ≤ l[i].Tx then m60_redo_Check_K12 l[i] (tab 12 (ended (l.take i))) g (tab 20 (vl l i)) i go true else m60_redo_Check_K12 l[i] (tab 12 (ended (l.take i))) g (tab 20 (vl l i)) i go false := by
    rw [m60_redo_Check_L1B, if_pos (by omega), idx_ok h, bind1_some]
  by_cases c1 : l[i].Tx < 0
  · exact bad 1 (by decide) (by rw [hrc, if_pos (.inl c1)]) (by rw [start, if_pos c1, m60_redo_Check_K12, if_pos rfl])
  by_cases c2 : 12 ≤ l[i].Tx
  · exact bad 1 (by decide) (by rw [hrc, if_pos (by omega)]) (by rw [start, if_neg c1, if_pos c2, m60_redo_Check_K12, if_pos rfl])
  rw [if_neg c1, if_neg c2, m60_redo_Check_K12, if_neg ff] at start
  by_cases c3 : l[i].Item < 0
  · exact bad 1 (by decide) (by rw [hrc, if_pos (by omega)]) (by rw [start, if_pos c3])
  by_cases c4 : 20 ≤ l[i].Item
  · exact bad 1 (by decide) (by rw [hrc, if_pos (by omega)]) (by rw [start, if_neg c3, if_pos c4])
  rw [if_neg c3, if_neg c4, m60_redo_Check_K4, tab_idxA (by omega) (by omega), bind1_some] at start
  rw [if_neg (show ¬ (l[i].Tx < 0 ∨ 11 < l[i].Tx ∨ l[i].Item < 0 ∨ 19 < l[i].Item) by omega)] at hrc
  by_cases c5 : ended (l.take i) l[i].Tx = true
  · exact bad 4 (by decide) (by rw [hrc, if_pos c5]) (by rw [start, if_pos c5])
  rw [if_neg c5, m60_redo_Check_K5] at start
  rw [if_neg c5] at hrc
  simp only [Bool.not_eq_true] at c5
  by_cases c6 : l[i].Kind = 1
  · rw [if_pos c6] at start hrc
    have hu := upd_iff h hpre
    rw [m60_redo_Check_K6, if_pos rfl, hg.get, i64_ok (by omega) (by omega), bind1_some] at start
    have k11t : m60_redo_Check_K11 (tab 20 (vl l i)) l[i] g (i : Int) go (tab 12 (ended (l.take i))) true = some 4 := by rw [m60_redo_Check_K11, if_pos rfl]
    by_cases c7 : ow l i l[i].Item = 0 ∨ ow l i l[i].Item = l[i].Tx + 1
    · have start2 : m60_redo_Check_L1B go l (i : Int) (tab 20 (vl l i)) g (tab 12 (ended (l.take i))) = m60_redo_Check_K11 (tab 20 (vl l i)) l[i] g (i : Int) go (tab 12 (ended (l.take i))) false := by
        rw [start]
        by_cases d : ow l i l[i].Item = 0
        · rw [if_neg (by simpa using d)]
        · rw [if_pos d, if_neg (by simp only [ne_eq, Decidable.not_not]; omega)]
      rw [m60_redo_Check_K11, if_neg ff, tab_idxA (by omega) (by omega), bind1_some] at start2
      by_cases c8 : l[i].Old = vl l i l[i].Item
      · have hr0 : rc l i = 0 := by rw [hrc, if_pos (hu.2 ⟨c7, c8⟩)]
        refine ⟨fun h0 => absurd hr0 h0, fun _ => ⟨⟨by omega, by omega, by omega, by omega, .inl c6⟩, fun e he => ?_⟩⟩
        rw [start2, if_neg (by simpa using c8), m60_redo_Check_K10, i64_ok (by omega) (by omega), bind1_some, bind1_some, tab_idxA (by omega) (by omega), bind1_some, tab_upd _ (by omega) (by omega), bind1_some, m60_redo_Check_K3, isucc i (by omega), bind1_some]
        have e1 : tab 20 (fun it => if it = l[i].Item then l[i].New else vl l i it) = tab 20 (vl l (i + 1)) := tab_ext fun it _ _ => (vl_upd h c6 it).symm
        have e2 : tab 12 (ended (l.take i)) = tab 12 (ended (l.take (i + 1))) := tab_ext fun t _ _ => by rw [ended_succ h, ends_one c6, Bool.or_false]
        rw [e1, e2]
        refine he _ ⟨mset_nodup hg.nod _ _, fun it => ?_, ?_⟩
        · rw [mget_mset, ow_upd h c6 c5, hg.get]
        · have := hg.len
          unfold mset
          split
          · simp; omega
          · simp; omega
      · exact bad 4 (by decide) (by rw [hrc, if_neg (fun hh => c8 (hu.1 hh).2)]) (by rw [start2, if_pos c8])
    · refine bad 4 (by decide) (by rw [hrc, if_neg (fun hh => c7 (hu.1 hh).1)]) ?_
      rw [start, if_pos (show ow l i l[i].Item ≠ 0 from fun h => c7 (.inl h)), if_pos (show ow l i l[i].Item ≠ l[i].Tx + 1 from fun h => c7 (.inr h)), k11t]
  · rw [if_neg c6] at start hrc
    rw [m60_redo_Check_K6, if_neg ff] at start
    have k7f : m60_redo_Check_K7 l[i] (tab 12 (ended (l.take i))) (i : Int) go (tab 20 (vl l i)) g false = some 4 := by rw [m60_redo_Check_K7, if_neg ff]
    by_cases c7 : l[i].Kind = 2 ∨ l[i].Kind = 3
    · rw [if_pos c7] at hrc
      have start2 : m60_redo_Check_L1B go l (i : Int) (tab 20 (vl l i)) g (tab 12 (ended (l.take i))) = m60_redo_Check_K7 l[i] (tab 12 (ended (l.take i))) (i : Int) go (tab 20 (vl l i)) g true := by
        rw [start]
        rcases c7 with d | d
        · rw [if_pos d]
        · rw [if_neg (by omega), if_pos d]
      rw [m60_redo_Check_K7, if_pos rfl] at start2
      have k9t : m60_redo_Check_K9 l[i] (tab 12 (ended (l.take i))) (i : Int) go (tab 20 (vl l i)) g true = some 4 := by rw [m60_redo_Check_K9, if_pos rfl]
      by_cases d1 : l[i].Item = 0
      · rw [if_neg (by simpa using d1)] at start2
        by_cases d2 : l[i].Old = 0
        · rw [if_neg (by simpa using d2), m60_redo_Check_K9, if_neg ff] at start2
          by_cases d3 : l[i].New = 0
          · have hr0 : rc l i = 0 := by rw [hrc, if_pos ⟨d1, d2, d3⟩]
            refine ⟨fun h0 => absurd hr0 h0, fun _ => ⟨⟨by omega, by omega, by omega, by omega, .inr c7⟩, fun e he => ?_⟩⟩
            rw [start2, if_neg (by simpa using d3), m60_redo_Check_K8, tab_idxA (by omega) (by omega), bind1_some, tab_upd _ (by omega) (by omega), bind1_some]
            have e2 : tab 12 (fun t => if t = l[i].Tx then true else ended (l.take i) t) = tab 12 (ended (l.take (i + 1))) := tab_ext fun t _ _ => by
              have hen : endsB t l[i] = decide (l[i].Tx = t) := by
                unfold endsB
                rcases c7 with hk | hk <;> simp [hk]
              rw [ended_succ h, hen]
              by_cases ct : t = l[i].Tx
              · rw [if_pos ct, decide_eq_true ct.symm, Bool.or_true]
              · rw [if_neg ct, decide_eq_false (fun e => ct e.symm), Bool.or_false]
            have e1 : tab 20 (vl l i) = tab 20 (vl l (i + 1)) := tab_ext fun it _ _ => (vl_other h c6 it).symm
            rw [e1, e2]
            have hgl := hg.len
            refine goneLoop (i : Int) go _ _ l[i] ⟨by omega, by omega⟩ (ow l i) e g.length (fun g' hlen hn hm => ?_) g.length g g (Nat.le_refl _) rfl hg.nod hg.nod (fun p hp => ?_) (fun k hk => ?_) big (lt_big (by omega))
            · rw [m60_redo_Check_K3, isucc i (by omega), bind1_some]
              refine he g' ⟨hn, fun it => ?_, by omega⟩
              rw [hm, ow_end h c7 (by omega)]
            · obtain ⟨j, hj, hje⟩ := List.getElem_of_mem hp
              have hj2 : g[j]? = some (p.1, p.2) := by rw [List.getElem?_eq_getElem hj, hje]
              have := mget_at (z := 0) hg.nod hj2
              exact ⟨by rw [← hg.get, this], this⟩
            · rw [mget_none hk]
              have h0 : ow l i k = 0 := by rw [← hg.get, mget_none hk]
              rw [h0, if_neg (by omega)]
          · exact bad 4 (by decide) (by rw [hrc, if_neg (fun hh => d3 hh.2.2)]) (by rw [start2, if_pos d3])
        · exact bad 4 (by decide) (by rw [hrc, if_neg (fun hh => d2 hh.2.1)]) (by rw [start2, if_pos d2, k9t])
      · exact bad 4 (by decide) (by rw [hrc, if_neg (fun hh => d1 hh.1)]) (by rw [start2, if_pos d1, k9t])
    · refine bad 4 (by decide) (by rw [hrc, if_neg c7]) ?_
      rw [start, if_neg (fun d => c7 (.inl d)), if_neg (fun d => c7 (.inr d)), k7f]
theorem rc_ok {l : List TRec} {i : Nat} (h : i < l.length) (h0 : rc l i = 0) : Rok l[i] := by
  unfold rc at h0
  rw [recN_at h] at h0
  by_cases c : l[i].Tx < 0 ∨ 11 < l[i].Tx ∨ l[i].Item < 0 ∨ 19 < l[i].Item
  · rw [if_pos c] at h0; omega
  · rw [if_neg c] at h0
    refine ⟨by omega, by omega, by omega, by omega, ?_⟩
    by_cases c2 : ended (l.take i) l[i].Tx = true
    · rw [if_pos c2] at h0; omega
    · rw [if_neg c2] at h0
      by_cases c3 : l[i].Kind = 1
      · exact .inl c3
      · rw [if_neg c3] at h0
        by_cases c4 : l[i].Kind = 2 ∨ l[i].Kind = 3
        · exact .inr c4
        · rw [if_neg c4] at h0; omega
theorem chk (l : List TRec) (hl : l.length ≤ 400) : ∀ (r i : Nat), i + r = l.length → (∀ j (hj : j < l.length), j < i → Rok l[j]) → ∀ n n', r < n → r < n' →
    ∃ e, m57_quirref_LogErr_L1 l n (i : Int) = some e ∧ (∀ g, OInv l i g → m60_redo_Check_L1 l n' (i : Int) (tab 20 (vl l i)) g (tab 12 (ended (l.take i))) = some e) ∧ (e = 0 → ∀ j (hj : j < l.length), Rok l[j]) := by
  intro r
  induction r with
  | zero =>
    intro i hi hpre n n' hn hn'
    obtain ⟨n, rfl⟩ := dec n hn
    obtain ⟨n', rfl⟩ := dec n' hn'
    refine ⟨0, ?_, fun g _ => ?_, fun _ j hj => hpre j hj (by omega)⟩
    · rw [m57_quirref_LogErr_L1, m57_quirref_LogErr_L1B, if_neg (by omega)]; rfl
    · rw [m60_redo_Check_L1, m60_redo_Check_L1B, if_neg (by omega)]; rfl
  | succ r ih =>
    intro i hi hpre n n' hn hn'
    obtain ⟨n, rfl⟩ := dec n (by omega)
    obtain ⟨n', rfl⟩ := dec n' (by omega)
    have h1 : i < l.length := by omega
    have hck := fun g hg => ck_round l hl i h1 (fun j hj hji => (hpre j hj hji).t0) (m60_redo_Check_L1 l n') g hg
    rw [m57_quirref_LogErr_L1, m57_quirref_LogErr_L1B, if_pos (by omega), rec_eq l (by omega) i h1, bind1_some]
    by_cases c : rc l i = 0
    · obtain ⟨e, h2, h3, h4⟩ := ih (i + 1) (by omega) (fun j hj hji => by
        by_cases cj : j = i
        · subst cj; exact rc_ok h1 c
        · exact hpre j hj (by omega)) n n' (by omega) (by omega)
      refine ⟨e, ?_, fun g hg => ?_, h4⟩
      · rw [if_neg (by simpa using c), isucc i (by omega), bind1_some]; exact h2
      · rw [m60_redo_Check_L1]
        exact ((hck g hg).2 c).2 e h3
    · refine ⟨rc l i, by rw [if_pos c], fun g hg => ?_, fun h0 => absurd h0 c⟩
      rw [m60_redo_Check_L1]
      exact (hck g hg).1 c
theorem log_eq (l : List TRec) : ∃ e, m57_quirref_LogErr l = some e ∧ m60_redo_Check l = some e ∧ (e = 0 → l.length ≤ 400 ∧ ∀ j (hj : j < l.length), Rok l[j]) := by
  rw [m57_quirref_LogErr, m60_redo_Check]
  by_cases h : 400 < l.length
  · exact ⟨2, by rw [if_pos (by omega)], by rw [if_pos (by omega)], by omega⟩
  · obtain ⟨e, h1, h2, h3⟩ := chk l (by omega) l.length 0 (by omega) (by omega) big big (lt_big (by omega)) (lt_big (by omega))
    refine ⟨e, by rw [if_neg (by omega), m57_quirref_LogErr_K1]; exact h1, ?_, fun h0 => ⟨by omega, h3 h0⟩⟩
    rw [if_neg (by omega), m60_redo_Check_K1, tab_repl, tab_repl]
    exact h2 [] ⟨by simp, fun it => by simp [mget, ow, luN], by simp⟩
end Go.Proofs.Ytfmgjigdebofaaa
