/-
  Runs that are alike to whom reads: see.Alike and the document's Alike, and the law.
  Conditions: none.
-/
import Derived.Test.YtglbgeamiobldaaRlQ
namespace Go.Proofs.Ytglbgeamiobldaa
open Go.S Go.Sort
set_option linter.unusedVariables false
set_option linter.unusedSimpArgs false

/-! ### Names -/
def nmI (l : List TOp) (x : Int) : Tname := ⟨txA l x.toNat, whA l x.toNat⟩
def atN (l : List TOp) (x : Int) : Tname := if x < 0 then ⟨-1, -1⟩ else nmI l x
theorem tab_snoc {α : Type} (n : Nat) (f : Int → α) : tab n f ++ [f (n : Int)] = tab (n + 1) f := by
  unfold tab
  rw [List.range_succ, List.map_append]
  rfl
theorem namesL (l : List TOp) (hg : Good l) : ∀ (r i : Nat), i + r = l.length → ∀ m, r < m → m32_see_names_L1 l m (tab i (nmI l)) (i : Int) (tab 12 (cntT (l.take i))) = some (tab l.length (nmI l)) := by
  have hl := hg.len
  intro r
  induction r with
  | zero =>
    intro i hi m hm
    obtain ⟨m, rfl⟩ := dec m hm
    rw [m32_see_names_L1, m32_see_names_L1B, if_neg (by omega), m32_see_names_K1, show i = l.length by omega]
  | succ r ih =>
    intro i hi m hm
    obtain ⟨m, rfl⟩ := dec m (by omega)
    have h1 : i < l.length := by omega
    have hf := hg.fine i h1
    have t0 := hf.t0
    have t1 := hf.t1
    have hc := cntT_le (l.take i) l[i].Tx
    rw [List.length_take] at hc
    have hn : (⟨l[i].Tx, cntT (l.take i) l[i].Tx⟩ : Tname) = nmI l (i : Int) := by
      rw [nmI, Int.toNat_natCast, whA, txA_at h1]
    have hcnt : (tab 12 fun x => if x = l[i].Tx then cntT (l.take i) l[i].Tx + 1 else cntT (l.take i) x) = tab 12 (cntT (l.take (i + 1))) := by
      apply tab_ext
      intro x _ _
      rw [take_snoc h1, cntT_snoc]
      by_cases c : x = l[i].Tx
      · rw [if_pos c, if_pos c.symm, c]
      · rw [if_neg c, if_neg (Ne.symm c), Int.add_zero]
    rw [m32_see_names_L1, m32_see_names_L1B, if_pos (by omega), idx_ok h1, bind1_some, tab_idxA t0 t1, bind1_some, app_ok (by rw [tab_length]; simp only [List.length_cons, List.length_nil]; omega), bind1_some, bind1_some, i64_ok (by omega) (by omega), bind1_some, bind1_some, tab_upd _ t0 t1, bind1_some, isucc i (by omega), bind1_some, hn, tab_snoc, hcnt, ih (i + 1) (by omega) m (by omega)]
theorem names_eq (l : List TOp) (hg : Good l) : m32_see_names l = some (tab l.length (nmI l)) := by
  have hl := hg.len
  have h := namesL l hg l.length 0 (by omega) big (lt_big (by omega))
  have e2 : tab 12 (cntT (l.take 0)) = List.replicate 12 0 := by
    rw [tab_repl]; exact tab_ext fun x _ _ => rfl
  rw [e2] at h
  exact h
theorem nmI_inj {l : List TOp} {x y : Int} (hx : 0 ≤ x ∧ x < l.length) (hy : 0 ≤ y ∧ y < l.length) (h : nmI l x = nmI l y) : x = y := by
  simp only [nmI, Tname.mk.injEq] at h
  have := name_inj (show x.toNat < l.length by omega) (show y.toNat < l.length by omega) h.1 h.2
  omega

/-! ### What is read -/
def rd1 (l : List TOp) (i : Nat) : List TSeen := match l[i]? with
  | some o => if o.Kind = 1 then [⟨(i : Int), wr l (l.take i) o.Item i⟩] else []
  | none => []
def rdL (l : List TOp) : Nat → Nat → List TSeen
  | _, 0 => []
  | i, r + 1 => rd1 l i ++ rdL l (i + 1) r
theorem rd1_at {l : List TOp} {i : Nat} (h : i < l.length) : rd1 l i = if l[i].Kind = 1 then [⟨(i : Int), wr l (l.take i) l[i].Item i⟩] else [] := by
  rw [rd1, List.getElem?_eq_getElem h]
theorem rdL_len (l : List TOp) : ∀ (r i : Nat), (rdL l i r).length ≤ r
  | 0, i => Nat.le_refl _
  | r + 1, i => by
    have := rdL_len l r (i + 1)
    have h1 : (rd1 l i).length ≤ 1 := by unfold rd1; split <;> (try split) <;> simp
    rw [rdL, List.length_append]
    omega
theorem rdL_mem {l : List TOp} {s : TSeen} : ∀ (r i : Nat), s ∈ rdL l i r → (i : Int) ≤ s.At ∧ s.At < i + r ∧ -1 ≤ s.From ∧ s.From < s.At
  | 0, i, h => by simp [rdL] at h
  | r + 1, i, h => by
    rw [rdL, List.mem_append] at h
    rcases h with h | h
    · unfold rd1 at h
      split at h
      · rename_i o _
        split at h
        · rw [List.mem_singleton] at h
          have := wr_range l (l.take i) o.Item i
          rw [h]
          show (i : Int) ≤ (i : Int) ∧ (i : Int) < i + (r + 1 : Nat) ∧ -1 ≤ wr l (l.take i) o.Item i ∧ wr l (l.take i) o.Item i < (i : Int)
          omega
        · cases h
      · cases h
    · have := rdL_mem r (i + 1) h
      omega
theorem rdL_lt {l : List TOp} : ∀ (r i : Nat), (rdL l i r).Pairwise fun s t => s.At < t.At
  | 0, i => .nil
  | r + 1, i => by
    rw [rdL, List.pairwise_append]
    refine ⟨?_, rdL_lt r (i + 1), fun s hs t ht => ?_⟩
    · unfold rd1
      split
      · split <;> simp
      · simp
    · have h2 := rdL_mem r (i + 1) ht
      unfold rd1 at hs
      split at hs
      · split at hs
        · rw [List.mem_singleton] at hs
          rw [hs]
          show (i : Int) < t.At
          omega
        · cases hs
      · cases hs
theorem rreadsL (l : List TOp) (hg : Good l) : ∀ (r i : Nat), i + r = l.length → ∀ acc : List TSeen, acc.length ≤ i → ∀ m, r < m → m22_quirref_Reads_L1 l m acc (i : Int) = some (acc ++ rdL l i r) := by
  have hl := hg.len
  intro r
  induction r with
  | zero =>
    intro i hi acc ha m hm
    obtain ⟨m, rfl⟩ := dec m hm
    rw [m22_quirref_Reads_L1, m22_quirref_Reads_L1B, if_neg (by omega), m22_quirref_Reads_K1, rdL, List.append_nil]
  | succ r ih =>
    intro i hi acc ha m hm
    obtain ⟨m, rfl⟩ := dec m (by omega)
    have h1 : i < l.length := by omega
    rw [m22_quirref_Reads_L1, m22_quirref_Reads_L1B, if_pos (by omega), idx_ok h1, bind1_some, rdL, rd1_at h1]
    by_cases c : l[i].Kind = 1
    · rw [if_pos c, if_pos c, writer_eq l i l[i].Item hl (by omega), bind1_some, app_ok (by simp only [List.length_cons, List.length_nil]; omega), bind1_some, isucc i (by omega), bind1_some, ih (i + 1) (by omega) _ (by simp only [List.length_append, List.length_cons, List.length_nil]; omega) m (by omega), List.append_assoc]
    · rw [if_neg c, if_neg c, isucc i (by omega), bind1_some, ih (i + 1) (by omega) acc (by omega) m (by omega), List.nil_append]
def reads (l : List TOp) : List TSeen := rdL l 0 l.length
theorem rreads_eq (l : List TOp) (hg : Good l) : m22_quirref_Reads l = some (reads l) := by
  have := rreadsL l hg l.length 0 (by omega) [] (by simp) big (lt_big (by have := hg.len; omega))
  rw [List.nil_append] at this
  exact this
theorem own_reads (l : List TOp) (hg : Good l) : m34_see_Reads_K1 l = some (reads l, 0) := by
  obtain ⟨z, h1, h2, _⟩ := reads_eq l hg
  rw [rreads_eq l hg] at h2
  rw [h1, ← Option.some.inj h2]
theorem reads_mem {l : List TOp} {s : TSeen} (h : s ∈ reads l) : 0 ≤ s.At ∧ s.At < l.length ∧ -1 ≤ s.From ∧ s.From < l.length := by
  have := rdL_mem l.length 0 h
  omega

/-! ### The view of a run -/
def ent (l : List TOp) (s : TSeen) : Tname × Tname := (nmI l s.At, atN l s.From)
theorem kset_new {κ α : Type} [DecidableEq κ] {l : List (κ × α)} {k : κ} {v : α} (h : ∀ p ∈ l, p.1 ≠ k) : kset l k v = l ++ [(k, v)] := by
  unfold kset
  rw [if_neg (by rw [khas_none h]; simp)]
theorem viewL2 (l : List TOp) (hg : Good l) : ∀ (r i : Nat), i + r = (reads l).length → ∀ m, r < m →
    m17_see_view_L2 (reads l) (tab l.length (nmI l)) l m (i : Int) (((reads l).take i).map (ent l)) = m17_see_view_K1 l (tab l.length (nmI l)) ((reads l).map (ent l)) := by
  have hl := hg.len
  have hrl : (reads l).length ≤ l.length := rdL_len l l.length 0
  intro r
  induction r with
  | zero =>
    intro i hi m hm
    obtain ⟨m, rfl⟩ := dec m hm
    rw [m17_see_view_L2, m17_see_view_L2B, if_neg (by omega), List.take_of_length_le (by omega)]
  | succ r ih =>
    intro i hi m hm
    obtain ⟨m, rfl⟩ := dec m (by omega)
    have h1 : i < (reads l).length := by omega
    obtain ⟨a0, a1, a2, a3⟩ := reads_mem (List.getElem_mem h1)
    have hnew : ∀ p ∈ ((reads l).take i).map (ent l), p.1 ≠ nmI l (reads l)[i].At := by
      intro p hp e
      obtain ⟨s, hs, rfl⟩ := List.mem_map.1 hp
      obtain ⟨j, hj, rfl⟩ := List.getElem_of_mem hs
      rw [List.length_take] at hj
      rw [List.getElem_take] at e
      have hjl : j < (reads l).length := by omega
      obtain ⟨b0, b1, _, _⟩ := reads_mem (List.getElem_mem hjl)
      have hlt := List.pairwise_iff_getElem.1 (rdL_lt (l := l) l.length 0) j i hjl h1 (by omega)
      have hlt' : (reads l)[j].At < (reads l)[i].At := hlt
      have := nmI_inj (l := l) ⟨b0, b1⟩ ⟨a0, a1⟩ e
      omega
    have hk4 : ∀ t w : Int, (⟨t, w⟩ : Tname) = atN l (reads l)[i].From → m17_see_view_K4 (((reads l).take i).map (ent l)) (nmI l (reads l)[i].At) (i : Int) (m17_see_view_L2 (reads l) (tab l.length (nmI l)) l m) t w = m17_see_view_K1 l (tab l.length (nmI l)) ((reads l).map (ent l)) := by
      intro t w e
      have e2 : ((reads l).take i).map (ent l) ++ [(nmI l (reads l)[i].At, atN l (reads l)[i].From)] = ((reads l).take (i + 1)).map (ent l) := by
        rw [take_snoc h1, List.map_append]; rfl
      rw [m17_see_view_K4, bind1_some, isucc i (by omega), bind1_some, kset_new hnew, e, e2, ih (i + 1) (by omega) m (by omega)]
    rw [m17_see_view_L2, m17_see_view_L2B, if_pos (by omega), idx_ok h1, bind1_some, tab_idx a0 a1, bind1_some]
    by_cases c : (reads l)[i].From < 0
    · rw [if_pos c]
      exact hk4 _ _ (by rw [atN, if_pos c])
    · rw [if_neg c, tab_idx (by omega) a3, bind1_some]
      exact hk4 _ _ (by rw [atN, if_neg c])
def ends (l : List TOp) (x : Int) : Int := wr l l x l.length
theorem ends_rng (l : List TOp) (x : Int) : -1 ≤ ends l x ∧ ends l x < l.length := wr_range l l x l.length
theorem arrT {α : Type} (n : Nat) (f : Int → α) : arrN n (tab n f) = some (tab n f) := arrN_ok (tab_length ..)
theorem arrR {α : Type} (n : Nat) (z : α) : arrN n (List.replicate n z) = some (List.replicate n z) := arrN_ok (by simp)
theorem viewL1 (l : List TOp) (hg : Good l) (mp : List (Tname × Tname)) : ∀ (r i : Nat), i + r = 20 → ∀ m, r < m →
    m17_see_view_L1 (tab 20 (ends l)) (tab l.length (nmI l)) mp m (i : Int) (tab 20 fun x => if x < i then atN l (ends l x) else ⟨0, 0⟩) = some (mp, tab 20 fun x => atN l (ends l x)) := by
  have hl := hg.len
  intro r
  induction r with
  | zero =>
    intro i hi m hm
    obtain ⟨m, rfl⟩ := dec m hm
    have e : (tab 20 fun x : Int => if x < i then atN l (ends l x) else ⟨0, 0⟩) = tab 20 fun x => atN l (ends l x) := tab_ext fun x _ _ => by rw [if_pos (by omega)]
    rw [m17_see_view_L1, m17_see_view_L1B, if_neg (by omega), m17_see_view_K2, e, arrT, bind1_some, arrR, bind1_some, bind1_some, bind1_some]
  | succ r ih =>
    intro i hi m hm
    obtain ⟨m, rfl⟩ := dec m (by omega)
    have i0 : (0 : Int) ≤ (i : Int) := by omega
    have i1 : (i : Int) < ((20 : Nat) : Int) := by omega
    have hr := ends_rng l (i : Int)
    have hk3 : ∀ t w : Int, (⟨t, w⟩ : Tname) = atN l (ends l (i : Int)) → m17_see_view_K3 (tab 20 fun x => if x < i then atN l (ends l x) else ⟨0, 0⟩) (i : Int) (m17_see_view_L1 (tab 20 (ends l)) (tab l.length (nmI l)) mp m) t w = some (mp, tab 20 fun x => atN l (ends l x)) := by
      intro t w e
      rw [m17_see_view_K3, tab_idxA i0 i1, bind1_some, tab_upd _ i0 i1, bind1_some, isucc i (by omega), bind1_some, e, ← ih (i + 1) (by omega) m (by omega)]
      congr 1
      apply tab_ext
      intro x _ _
      by_cases c : x = i
      · rw [if_pos c, if_pos (by omega), c]
      · rw [if_neg c]
        by_cases c2 : x < i
        · rw [if_pos c2, if_pos (by omega)]
        · rw [if_neg c2, if_neg (by omega)]
    rw [m17_see_view_L1, m17_see_view_L1B, if_pos (by omega), tab_idxA i0 i1, bind1_some]
    by_cases c : ends l (i : Int) < 0
    · rw [if_pos c]
      exact hk3 _ _ (by rw [atN, if_pos c])
    · rw [if_neg c, tab_idx (by omega) hr.2, bind1_some]
      exact hk3 _ _ (by rw [atN, if_neg c])
theorem view_eq (l : List TOp) (hg : Good l) (hc : m10_run_Check l = some 0) : m17_see_view l = some ((reads l).map (ent l), tab 20 fun x => atN l (ends l x)) := by
  have h2 := viewL2 l hg (reads l).length 0 (by omega) big (lt_big (by have h1 := hg.len; have h2 := rdL_len l l.length 0; unfold reads; omega))
  rw [show ((0 : Nat) : Int) = 0 from rfl, List.take_zero, List.map_nil] at h2
  have h1 := viewL1 l hg ((reads l).map (ent l)) 20 0 (by omega) big (lt_big (by omega))
  have e1 : (tab 20 fun x : Int => if x < ((0 : Nat) : Int) then atN l (ends l x) else (⟨0, 0⟩ : Tname)) = List.replicate 20 (⟨0, 0⟩ : Tname) := by
    rw [tab_repl]; exact tab_ext fun x h0 _ => by rw [if_neg (by omega)]
  rw [e1, show ((0 : Nat) : Int) = 0 from rfl] at h1
  have hl := last_own l hg
  have hR : m34_see_Reads l = some (reads l, 0) := by rw [m34_see_Reads, hc, bind1_some, if_neg (by simp), own_reads l hg]
  have hL : m35_see_Last l = some (tab 20 (ends l), 0) := by rw [m35_see_Last, hc, bind1_some, if_neg (by simp), hl]; rfl
  rw [m17_see_view, names_eq l hg, bind1_some, hR, bind2_some, h2, m17_see_view_K1, hL, bind2_some, arrR, bind1_some, arrT, bind1_some, bind1_some, h1]

/-! ### see.Alike -/
def okE (g : List (Tname × Tname)) (p : Tname × Tname) : Bool := khas g p.1 && decide (p.2 = kget g p.1 ⟨0, 0⟩)
theorem all_erase {α : Type} {p : α → Bool} : ∀ (l : List α) (j : Nat) {x : α}, l[j]? = some x → l.all p = (p x && (l.eraseIdx j).all p)
  | a :: l, 0, x, h => by
    simp only [List.getElem?_cons_zero, Option.some.injEq] at h
    subst h
    rfl
  | a :: l, j + 1, x, h => by
    simp only [List.getElem?_cons_succ] at h
    have := all_erase (p := p) l j h
    rw [List.all_cons, List.eraseIdx_cons_succ, List.all_cons, this]
    cases p a <;> cases p x <;> rfl
theorem alikeL (g : List (Tname × Tname)) : ∀ (u : Nat) (gl : List (Tname × Tname)), gl.length ≤ u → ∀ m, u < m → m7_see_Alike_L1 g m gl = some (gl.all (okE g), 0) := by
  intro u
  induction u with
  | zero =>
    intro gl hgl m hm
    obtain ⟨m, rfl⟩ := dec m hm
    obtain rfl : gl = [] := List.eq_nil_of_length_eq_zero (by omega)
    rw [m7_see_Alike_L1, m7_see_Alike_L1B, m7_see_Alike_K4]
    rfl
  | succ u ih =>
    intro gl hgl m hm
    obtain ⟨m, rfl⟩ := dec m (by omega)
    rw [m7_see_Alike_L1, m7_see_Alike_L1B]
    by_cases hn : gl = []
    · subst hn; rw [m7_see_Alike_K4]; rfl
    · refine nxt_ok hn fun j x hx => ?_
      have hj := (List.getElem?_eq_some_iff.1 hx).1
      have he := all_erase (p := okE g) gl j hx
      have hlen : (gl.eraseIdx j).length ≤ u := by rw [List.length_eraseIdx_of_lt hj]; omega
      rw [he]
      show (if khas g x.1 = true then if x.2 ≠ kget g x.1 ⟨0, 0⟩ then some (false, 0) else m7_see_Alike_L1 g m (gl.eraseIdx j) else some (false, 0)) = some (okE g x && (gl.eraseIdx j).all (okE g), 0)
      by_cases c : khas g x.1 = true
      · rw [if_pos c]
        by_cases c2 : x.2 = kget g x.1 ⟨0, 0⟩
        · have : okE g x = true := by rw [okE, c, decide_eq_true c2]; rfl
          rw [if_neg (fun h => h c2), ih _ hlen m (by omega), this, Bool.true_and]
        · have : okE g x = false := by rw [okE, decide_eq_false c2, Bool.and_false]
          rw [if_pos c2, this, Bool.false_and]
      · have : okE g x = false := by rw [okE, Bool.eq_false_iff.2 c, Bool.false_and]
        rw [if_neg c, this, Bool.false_and]
def sawB (a b : List TOp) (s : TSeen) : Bool := match (reads b).find? (fun t => decide (nmI b t.At = nmI a s.At)) with
  | some t => decide (atN a s.From = atN b t.From)
  | none => false
theorem okE_saw (a b : List TOp) (s : TSeen) : okE ((reads b).map (ent b)) (ent a s) = sawB a b s := by
  have hf : ((reads b).map (ent b)).find? (fun p => decide (p.1 = nmI a s.At)) = ((reads b).find? (fun t => decide (nmI b t.At = nmI a s.At))).map (ent b) := by
    rw [List.find?_map]; rfl
  have hh : khas ((reads b).map (ent b)) (nmI a s.At) = (((reads b).map (ent b)).find? (fun p => decide (p.1 = nmI a s.At))).isSome := by
    unfold khas
    rw [List.any_eq_not_all_not]
    cases q : ((reads b).map (ent b)).find? (fun p => decide (p.1 = nmI a s.At)) with
    | none =>
      have := List.find?_eq_none.1 q
      have h2 : (((reads b).map (ent b)).all fun p => !decide (p.1 = nmI a s.At)) = true := List.all_eq_true.2 fun p hp => by simpa using this p hp
      rw [h2]; rfl
    | some p =>
      have h1 := List.mem_of_find?_eq_some q
      have h2' := List.find?_some q
      have h2 : decide (p.1 = nmI a s.At) = true := h2'
      have h3 : (((reads b).map (ent b)).all fun p => !decide (p.1 = nmI a s.At)) = false := by
        rw [Bool.eq_false_iff]
        intro h
        have := List.all_eq_true.1 h p h1
        rw [h2] at this
        cases this
      rw [h3]; rfl
  show (khas ((reads b).map (ent b)) (nmI a s.At) && decide (atN a s.From = kget ((reads b).map (ent b)) (nmI a s.At) ⟨0, 0⟩)) = sawB a b s
  rw [hh, hf, sawB]
  unfold kget
  rw [hf]
  cases (reads b).find? (fun t => decide (nmI b t.At = nmI a s.At)) with
  | none => rfl
  | some t => rfl
theorem tab_inj {α : Type} {n : Nat} {f g : Int → α} : tab n f = tab n g ↔ ∀ x : Int, 0 ≤ x → x < n → f x = g x := by
  constructor
  · intro h x h0 h1
    have e := tab_idx (f := f) h0 h1
    rw [h, tab_idx h0 h1] at e
    exact (Option.some.inj e).symm
  · exact fun h => tab_ext h
def lastB (a b : List TOp) : Bool := decide ((tab 20 fun x => atN a (ends a x)) = tab 20 fun x => atN b (ends b x))
def alikeB (a b : List TOp) : Bool := lastB a b && (decide ((reads a).length = (reads b).length) && (reads a).all (sawB a b))
theorem alike_own (a b : List TOp) (ha : Good a) (hb : Good b) (ca : m10_run_Check a = some 0) (cb : m10_run_Check b = some 0) : m7_see_Alike a b = some (alikeB a b, 0) := by
  have hra : (reads a).length ≤ a.length := rdL_len a a.length 0
  have hla := ha.len
  have hal := alikeL ((reads b).map (ent b)) ((reads a).map (ent a)).length ((reads a).map (ent a)) (Nat.le_refl _) big (lt_big (by rw [List.length_map]; omega))
  have hall : ((reads a).map (ent a)).all (okE ((reads b).map (ent b))) = (reads a).all (sawB a b) := by
    rw [List.all_map]
    congr 1
    funext s
    exact okE_saw a b s
  rw [m7_see_Alike, ca, bind1_some, if_neg (by simp), m7_see_Alike_K1, cb, bind1_some, if_neg (by simp), m7_see_Alike_K2, view_eq a ha ca, bind2_some, arrR, bind1_some, arrT, bind1_some, view_eq b hb cb, bind2_some, bind1_some, arrT, bind1_some, bind1_some, bind1_some, bind1_some, bind1_some, alikeB, lastB]
  by_cases c : (tab 20 fun x => atN a (ends a x)) = tab 20 fun x => atN b (ends b x)
  · rw [if_neg (fun h => h c), decide_eq_true c, Bool.true_and, List.length_map, List.length_map]
    by_cases c2 : (reads a).length = (reads b).length
    · rw [if_neg (by omega), m7_see_Alike_K3, hal, hall, decide_eq_true c2, Bool.true_and]
    · rw [if_pos (by omega), decide_eq_false c2, Bool.false_and]
  · rw [if_pos c, decide_eq_false c, Bool.false_and]

/-! ### The document's Alike -/
theorem nmI_at {l : List TOp} {i : Nat} (h : i < l.length) : nmI l (i : Int) = ⟨l[i].Tx, whA l i⟩ := by
  rw [nmI, Int.toNat_natCast, txA_at h]
theorem same_eq (a b : List TOp) (hla : a.length ≤ 1000000) (hlb : b.length ≤ 1000000) {i k : Int} (hi : -1 ≤ i ∧ i < a.length) (hk : -1 ≤ k ∧ k < b.length) : m25_quirref_sameOp a i b k = some (decide (atN a i = atN b k)) := by
  have hneg : ∀ (l : List TOp) {x : Int}, 0 ≤ x → atN l x ≠ ⟨-1, -1⟩ := fun l x hx e => by
    rw [atN, if_neg (by omega), nmI, Tname.mk.injEq] at e
    have := whA_le l x.toNat
    omega
  rw [m25_quirref_sameOp]
  by_cases c1 : i < 0
  · rw [if_pos c1, m25_quirref_sameOp_K2, if_pos rfl, if_pos c1]
    congr 1
    have e1 : atN a i = ⟨-1, -1⟩ := by rw [atN, if_pos c1]
    by_cases c2 : k < 0
    · rw [decide_eq_true c2, decide_eq_true (by rw [e1, atN, if_pos c2])]
    · rw [decide_eq_false c2, decide_eq_false (by rw [e1]; exact fun h => hneg b (by omega) h.symm)]
  · by_cases c2 : k < 0
    · have e2 : atN b k = ⟨-1, -1⟩ := by rw [atN, if_pos c2]
      rw [if_neg c1, if_pos c2, m25_quirref_sameOp_K2, if_pos rfl, if_neg c1, decide_eq_false (by rw [e2]; exact hneg a (by omega))]
    · obtain ⟨p, rfl⟩ : ∃ p : Nat, i = p := ⟨i.toNat, by omega⟩
      obtain ⟨q, rfl⟩ : ∃ q : Nat, k = q := ⟨k.toNat, by omega⟩
      have hp : p < a.length := by omega
      have hq : q < b.length := by omega
      have e : decide (atN a (p : Int) = atN b (q : Int)) = (decide (a[p].Tx = b[q].Tx) && decide (whA a p = whA b q)) := by
        rw [atN, if_neg c1, atN, if_neg c2, nmI_at hp, nmI_at hq]
        by_cases d1 : a[p].Tx = b[q].Tx
        · by_cases d2 : whA a p = whA b q
          · simp [d1, d2]
          · simp [d2]
        · simp [d1]
      rw [if_neg c1, if_neg c2, m25_quirref_sameOp_K2, if_neg ff, m25_quirref_sameOp_K1, idx_ok hp, bind1_some, idx_ok hq, bind1_some, e]
      by_cases d1 : a[p].Tx = b[q].Tx
      · rw [if_pos d1, which_eq a hla hp, bind1_some, which_eq b hlb hq, bind1_some, decide_eq_true d1, Bool.true_and]
      · rw [if_neg d1, decide_eq_false d1, Bool.false_and]
theorem findL (a b : List TOp) (hla : a.length ≤ 200) (hlb : b.length ≤ 200) {s : TSeen} (hs : s ∈ reads a) (gx6 : Int) (go2 : Int → Option Bool) : ∀ (r i : Nat), i + r = (reads b).length → ∀ m, r < m →
    m9_quirref_Alike_L3 (reads b) a s b gx6 go2 m (i : Int) = match ((reads b).drop i).find? (fun t => decide (nmI b t.At = nmI a s.At)) with
      | some t => if decide (atN a s.From = atN b t.From) = true then bind1 (i64 (gx6 + 1)) fun x => go2 x else some false
      | none => some false := by
  have hrb : (reads b).length ≤ b.length := rdL_len b b.length 0
  obtain ⟨s0, s1, s2, s3⟩ := reads_mem hs
  intro r
  induction r with
  | zero =>
    intro i hi m hm
    obtain ⟨m, rfl⟩ := dec m hm
    rw [m9_quirref_Alike_L3, m9_quirref_Alike_L3B, if_neg (by omega), m9_quirref_Alike_K6, m9_quirref_Alike_K5, if_pos (by omega), List.drop_eq_nil_of_le (by omega)]
    rfl
  | succ r ih =>
    intro i hi m hm
    obtain ⟨m, rfl⟩ := dec m (by omega)
    have h1 : i < (reads b).length := by omega
    obtain ⟨t0, t1, t2, t3⟩ := reads_mem (List.getElem_mem h1)
    have e : decide (atN a s.At = atN b (reads b)[i].At) = decide (nmI b (reads b)[i].At = nmI a s.At) := by
      rw [atN, if_neg (by omega), atN, if_neg (by omega)]
      exact decide_eq_decide.2 ⟨Eq.symm, Eq.symm⟩
    rw [m9_quirref_Alike_L3, m9_quirref_Alike_L3B, if_pos (by omega), idx_ok h1, bind1_some, same_eq a b (by omega) (by omega) ⟨by omega, s1⟩ ⟨by omega, t1⟩, bind1_some, e, drop_cons h1, List.find?_cons, m9_quirref_Alike_K7]
    by_cases c : nmI b (reads b)[i].At = nmI a s.At
    · rw [decide_eq_true c, if_pos rfl, m9_quirref_Alike_K5, if_neg (by omega), idx_ok h1, bind1_some, same_eq a b (by omega) (by omega) ⟨s2, s3⟩ ⟨t2, t3⟩, bind1_some]
    · rw [decide_eq_false c, if_neg ff, isucc i (by omega), bind1_some, ih (i + 1) (by omega) m (by omega)]
theorem sawL (a b : List TOp) (hla : a.length ≤ 200) (hlb : b.length ≤ 200) : ∀ (r i : Nat), i + r = (reads a).length → ∀ m, r < m →
    m9_quirref_Alike_L2 (reads a) (reads b) a b m (i : Int) = if ((reads a).drop i).all (sawB a b) = true then m9_quirref_Alike_K2 a b else some false := by
  have hra : (reads a).length ≤ a.length := rdL_len a a.length 0
  have hrb : (reads b).length ≤ b.length := rdL_len b b.length 0
  intro r
  induction r with
  | zero =>
    intro i hi m hm
    obtain ⟨m, rfl⟩ := dec m hm
    rw [m9_quirref_Alike_L2, m9_quirref_Alike_L2B, if_neg (by omega), List.drop_eq_nil_of_le (by omega), List.all_nil, if_pos rfl]
  | succ r ih =>
    intro i hi m hm
    obtain ⟨m, rfl⟩ := dec m (by omega)
    have h1 : i < (reads a).length := by omega
    have hf := findL a b hla hlb (List.getElem_mem h1) (i : Int) (m9_quirref_Alike_L2 (reads a) (reads b) a b m) (reads b).length 0 (by omega) big (lt_big (by omega))
    rw [show ((0 : Nat) : Int) = 0 from rfl, List.drop_zero] at hf
    rw [m9_quirref_Alike_L2, m9_quirref_Alike_L2B, if_pos (by omega), idx_ok h1, bind1_some, hf, drop_cons h1, List.all_cons, isucc i (by omega), bind1_some, ih (i + 1) (by omega) m (by omega), sawB]
    cases (reads b).find? (fun t => decide (nmI b t.At = nmI a (reads a)[i].At)) with
    | none => rw [Bool.false_and, if_neg ff]
    | some t =>
      show (if decide (atN a (reads a)[i].From = atN b t.From) = true then (if ((reads a).drop (i + 1)).all (sawB a b) = true then m9_quirref_Alike_K2 a b else some false) else some false) = if (decide (atN a (reads a)[i].From = atN b t.From) && ((reads a).drop (i + 1)).all (sawB a b)) = true then m9_quirref_Alike_K2 a b else some false
      cases decide (atN a (reads a)[i].From = atN b t.From) <;> simp
theorem rlastL (a b : List TOp) (hla : a.length ≤ 200) (hlb : b.length ≤ 200) : ∀ (r i : Nat), i + r = 20 → ∀ m, r < m →
    ∃ v, m9_quirref_Alike_L1 (tab 20 (ends a)) (tab 20 (ends b)) a b m (i : Int) = some v ∧ (v = true ↔ ∀ x : Int, (i : Int) ≤ x → x < 20 → atN a (ends a x) = atN b (ends b x)) := by
  intro r
  induction r with
  | zero =>
    intro i hi m hm
    obtain ⟨m, rfl⟩ := dec m hm
    refine ⟨true, by rw [m9_quirref_Alike_L1, m9_quirref_Alike_L1B, if_neg (by omega), m9_quirref_Alike_K4], ?_⟩
    simp only [true_iff]
    intro x h1 h2
    omega
  | succ r ih =>
    intro i hi m hm
    obtain ⟨m, rfl⟩ := dec m (by omega)
    have i0 : (0 : Int) ≤ (i : Int) := by omega
    have i1 : (i : Int) < ((20 : Nat) : Int) := by omega
    rw [m9_quirref_Alike_L1, m9_quirref_Alike_L1B, if_pos (by omega), tab_idxA i0 i1, bind1_some, tab_idxA i0 i1, bind1_some, same_eq a b (by omega) (by omega) (ends_rng a _) (ends_rng b _), bind1_some]
    by_cases c : atN a (ends a (i : Int)) = atN b (ends b (i : Int))
    · obtain ⟨v, h1, h2⟩ := ih (i + 1) (by omega) m (by omega)
      refine ⟨v, by rw [if_pos (decide_eq_true c), isucc i (by omega), bind1_some, h1], h2.trans ⟨fun h x h3 h4 => ?_, fun h x h3 h4 => h x (by omega) h4⟩⟩
      by_cases e : x = i
      · rw [e]; exact c
      · exact h x (by omega) h4
    · refine ⟨false, by rw [if_neg (by simp [c])], ?_⟩
      simp only [Bool.false_eq_true, false_iff]
      exact fun h => c (h i (by omega) (by omega))
theorem alike_ref (a b : List TOp) (ha : Good a) (hb : Good b) : m9_quirref_Alike a b = some (alikeB a b) := by
  have hla := ha.len
  have hlb := hb.len
  have hra : (reads a).length ≤ a.length := rdL_len a a.length 0
  have hs := sawL a b hla hlb (reads a).length 0 (by omega) big (lt_big (by omega))
  rw [show ((0 : Nat) : Int) = 0 from rfl, List.drop_zero] at hs
  obtain ⟨v, h1, h2⟩ := rlastL a b hla hlb 20 0 (by omega) big (lt_big (by omega))
  rw [show ((0 : Nat) : Int) = 0 from rfl] at h1
  have hv : v = lastB a b := by
    unfold lastB
    have : v = true ↔ (tab 20 fun x => atN a (ends a x)) = tab 20 fun x => atN b (ends b x) := by
      rw [h2, tab_inj]
      exact ⟨fun h x h0 h1 => h x (by omega) (by omega), fun h x h0 h1 => h x (by omega) (by omega)⟩
    cases v with
    | true => exact (decide_eq_true (this.1 rfl)).symm
    | false => exact (decide_eq_false fun h => by have := this.2 h; cases this).symm
  have hA : m26_quirref_Last a = some (tab 20 (ends a)) := last_ref a ha
  have hB : m26_quirref_Last b = some (tab 20 (ends b)) := last_ref b hb
  rw [m9_quirref_Alike, rreads_eq a ha, bind1_some, rreads_eq b hb, bind1_some, alikeB]
  by_cases c : (reads a).length = (reads b).length
  · rw [if_neg (by omega), m9_quirref_Alike_K1, hs, decide_eq_true c, Bool.true_and]
    by_cases c2 : (reads a).all (sawB a b) = true
    · rw [if_pos c2, m9_quirref_Alike_K2, hA, bind1_some, hB, bind1_some, arrR, bind1_some, arrT, bind1_some, bind1_some, arrT, bind1_some, m9_quirref_Alike_K3, h1, hv, c2, Bool.and_true]
    · rw [if_neg c2, Bool.eq_false_iff.2 c2, Bool.and_false]
  · rw [if_pos (by omega), decide_eq_false c, Bool.false_and, Bool.and_false]

/-! ### The law -/
theorem likes_true (a b : List TOp) : m3_quirlaw_RunLikes a b = some true := by
  obtain ⟨e, e1, e2, e3⟩ := run_eq a
  obtain ⟨f, f1, f2, f3⟩ := run_eq b
  rw [m3_quirlaw_RunLikes, e1, bind1_some, f1, bind1_some, m4_quirlaw_firstOf]
  by_cases he : e = 0
  · subst he
    rw [if_neg (by simp), bind1_some]
    by_cases hf : f = 0
    · subst hf
      have ga := e3 rfl
      have gb := f3 rfl
      obtain ⟨v, v1, v2⟩ := like_eq a b ga gb
      have ha := alike_own a b ga gb e2 f2
      have hr := alike_ref a b ga gb
      rw [m6_run_Like, e2, bind1_some, if_neg (by simp), m6_run_Like_K1, f2, bind1_some, if_neg (by simp), v1, bind2_some]
      generalize alikeB a b = z at ha hr
      cases v <;> cases z <;> simp [m3_quirlaw_RunLikes_K1, m3_quirlaw_RunLikes_K2, m3_quirlaw_RunLikes_K3, m3_quirlaw_RunLikes_K4, m3_quirlaw_RunLikes_K5, m3_quirlaw_RunLikes_K6, m3_quirlaw_RunLikes_K7, m3_quirlaw_RunLikes_K8, m3_quirlaw_RunLikes_K9, m3_quirlaw_RunLikes_K10, m3_quirlaw_RunLikes_K11, ha, hr, v2]
    · have hL : m6_run_Like a b = some (false, f) := by rw [m6_run_Like, e2, bind1_some, if_neg (by simp), m6_run_Like_K1, f2, bind1_some, if_pos hf]
      have hA : m7_see_Alike a b = some (false, f) := by rw [m7_see_Alike, e2, bind1_some, if_neg (by simp), m7_see_Alike_K1, f2, bind1_some, if_pos hf]
      rw [hL, bind2_some, if_neg ff, m3_quirlaw_RunLikes_K1, if_neg ff, hA, bind2_some, if_neg ff, m3_quirlaw_RunLikes_K2, if_neg ff, if_pos hf, if_pos rfl]
      simp
  · have hL : m6_run_Like a b = some (false, e) := by rw [m6_run_Like, e2, bind1_some, if_pos he]
    have hA : m7_see_Alike a b = some (false, e) := by rw [m7_see_Alike, e2, bind1_some, if_pos he]
    rw [if_pos he, bind1_some, hL, bind2_some, if_neg ff, m3_quirlaw_RunLikes_K1, if_neg ff, hA, bind2_some, if_neg ff, m3_quirlaw_RunLikes_K2, if_neg ff, if_pos he, if_pos rfl]
    simp
end Go.Proofs.Ytglbgeamiobldaa
